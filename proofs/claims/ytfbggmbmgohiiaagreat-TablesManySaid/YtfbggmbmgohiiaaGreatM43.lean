/- Texts of this seat, one behind the other: TcV, TcW, TeA, TeB, TcY, TcX, TdA. No condition beyond theirs. -/
import Derived.Test.YtfbggmbmgohiiaaGreatM37
import Derived.Test.YtfbggmbmgohiiaaGreatM31
import Derived.Test.YtfbggmbmgohiiaaGreatM36
import Derived.Test.YtfbggmbmgohiiaaGreatM01
import Derived.Test.YtfbggmbmgohiiaaGreatM42
set_option linter.unusedSimpArgs false
set_option linter.unusedVariables false
set_option maxHeartbeats 4000000
set_option maxRecDepth 100000
namespace Go.Proofs.YtfbggmbmgohiiaaGreat.tb
open Go.RowKit mem rec tm names
section
variable {N : Nat} {w w' : World} {B : Nat} {F : Nat → Prop} {s : TbSt N} {t : TabE N} {k : Tm (N + 1)}
end
structure TabA (N : Nat) where
  ref : Tm (N + 1)
  own : Tm (N + 1)
  hs : Bool
  rows : List (Tm (N + 1) × Tm (N + 1))
def absT {N : Nat} (t : TabE N) : TabA N := ⟨t.ref, t.own, t.hs, absR t⟩
def StG {N : Nat} (B z : Nat) (A : List (TabA N)) (W : World) : Prop := ∃ F vl tabs, TbAt W B F ⟨z, vl, tabs⟩ ∧ tabs.map absT = A ∧ ∀ t ∈ tabs, GoodT t
noncomputable def refA {N : Nat} (A : List (TabA N)) (r : Tm (N + 1)) : Option Nat := A.findIdx? (fun x => eqB x.ref r)
noncomputable def tabA {N : Nat} (A : List (TabA N)) (r : Tm (N + 1)) : Option (TabA N) := (refA A r).bind (fun i => A[i]?)
structure SmA {N : Nat} (A : List (TabA N)) : Prop where
  len : A.length ≤ 1000
  rows : ∀ a ∈ A, a.rows.length ≤ 1000000
noncomputable def sizeX {N : Nat} (A : List (TabA N)) (r : Tm (N + 1)) : Int × Int := match tabA A r with
  | none => (0, 4)
  | some a => (a.rows.length, 0)
noncomputable def makeE {N : Nat} (A : List (TabA N)) (r o : Tm (N + 1)) : Int := if decide (r.f.kind = 3) && decide (o.f.kind = 6) && validT r && validT o then (match refA A r with
  | some _ => 8
  | none => if 64 ≤ A.length then 5 else 0) else 2
noncomputable def makeA {N : Nat} (A : List (TabA N)) (r o : Tm (N + 1)) (hs : Bool) : List (TabA N) := if makeE A r o = 0 then A ++ [⟨r, o, hs, []⟩] else A
section
variable {N : Nat} {B z : Nat} {A : List (TabA N)} {W W' : World}
theorem StG.below (h : StG B z A W) (hb : Below W.heap.size W W') : StG B z A W' := by
  obtain ⟨F, vl, tabs, h1, h2⟩ := h
  exact ⟨F, vl, tabs, h1.below hb, h2⟩
theorem StG.lt (h : StG B z A W) : z < W.heap.size := by
  obtain ⟨F, vl, tabs, h1, h2⟩ := h
  exact h1.zlt
theorem refA_map (tabs : List (TabE N)) (r : Tm (N + 1)) : refA (tabs.map absT) r = refAt tabs r := by
  unfold refA refAt
  rw [List.findIdx?_map]
  rfl
theorem refA_lt {r : Tm (N + 1)} {i : Nat} (h : refA A r = some i) : ∃ a, A[i]? = some a ∧ a.ref = r := by
  unfold refA at h
  rw [List.findIdx?_eq_some_iff_getElem] at h
  obtain ⟨hi, hp, _⟩ := h
  exact ⟨_, List.getElem?_eq_getElem hi, of_eqB hp⟩
theorem NewI.nil (w w' : World) : NewI w w' (fun _ => False) N nilV (zT : Tm (N + 1)).items := ⟨ItemsIn.nil_any (by decide), fun g hg => hg.elim, fun g hg => hg.elim⟩
theorem StG.open (h : StG B z A W) (hs : SmA A) (r : Tm (N + 1)) : ∃ F vl tabs, TbAt W B F ⟨z, vl, tabs⟩ ∧ tabs.map absT = A ∧ (∀ t ∈ tabs, GoodT t) ∧ tabs.length ≤ 1000 ∧
    ((refA A r = none ∧ refAt tabs r = none ∧ tabA A r = none) ∨ ∃ i, ∃ hi : i < tabs.length, refA A r = some i ∧ refAt tabs r = some i ∧ A[i]? = some (absT tabs[i]) ∧ tabA A r = some (absT tabs[i]) ∧ GoodT tabs[i] ∧ (tabs[i]).rows.length ≤ 1000000) := by
  obtain ⟨F, vl, tabs, h1, rfl, h3⟩ := h
  refine ⟨F, vl, tabs, h1, rfl, h3, by have := hs.len; rwa [List.length_map] at this, ?_⟩
  cases hr : refAt tabs r with
  | none =>
    have e : refA (tabs.map absT) r = none := by rw [refA_map, hr]
    exact .inl ⟨e, rfl, by unfold tabA; rw [e]; rfl⟩
  | some i =>
    have e : refA (tabs.map absT) r = some i := by rw [refA_map, hr]
    obtain ⟨hi, _⟩ := refAt_lt hr
    have ea : (tabs.map absT)[i]? = some (absT tabs[i]) := by rw [List.getElem?_map, List.getElem?_eq_getElem hi]; rfl
    have hl := hs.rows (absT tabs[i]) (List.mem_map.2 ⟨_, List.getElem_mem hi, rfl⟩)
    refine .inr ⟨i, hi, e, rfl, ea, by unfold tabA; rw [e]; exact ea, h3 _ (List.getElem_mem hi), ?_⟩
    unfold absT absR at hl
    rwa [List.length_map] at hl
theorem StG.set {tabs : List (TabE N)} (hg : ∀ t ∈ tabs, GoodT t) {i : Nat} {t' : TabE N} (h' : GoodT t') : ∀ t ∈ tabs.set i t', GoodT t := fun t ht => by
  rcases List.mem_or_eq_of_mem_set ht with ht | rfl
  · exact hg t ht
  · exact h'
variable {r k v o : Tm (N + 1)} {ur uk uv uo : Value} {B2 : Nat}
theorem g_size (h : StG B z A W) (hs : SmA A) (hB2 : B2 ≤ W.heap.size) (hI : ItemsAt W B2 N ur r.items) :
    Calls Tryz.prog 31 #[.pointer (some ⟨z, 0, none⟩), aggV r.f ur] W fun e w' => e = .returned (.tuple #[.int .i64 (sizeX A r).1, .int .i64 (sizeX A r).2]) ∧ Below W.heap.size W w' := by
  obtain ⟨F, vl, tabs, h1, h2, h3, hl, hc⟩ := h.open hs r
  rcases hc with ⟨c1, c2, c3⟩ | ⟨i, hi, c1, c2, c3, c4, c5, c6⟩
  · have e1 : sizeX A r = (0, 4) := by unfold sizeX; rw [c3]
    rw [e1]
    exact size31 h1 hl hB2 hI (.inl ⟨c2, rfl, rfl⟩)
  · have e1 : sizeX A r = (((tabs[i]).rows.length : Int), (0 : Int)) := by
      unfold sizeX
      rw [c4]
      show (((absR tabs[i]).length : Int), (0 : Int)) = _
      unfold absR
      rw [List.length_map]
    rw [e1]
    exact size31 h1 hl hB2 hI (.inr ⟨i, hi, c2, rfl, rfl⟩)
theorem g_make (h : StG B z A W) (hs : SmA A) (hB : B ≤ W.heap.size) (hB2 : B2 ≤ B) (hI : ItemsAt W B2 N ur r.items) (hJ : ItemsAt W B2 N uo o.items) (hnr : nodesT r ≤ 100000000) (hno : nodesT o ≤ 100000000) (hf : Bool) :
    Calls Tryz.prog 17 #[.pointer (some ⟨z, 0, none⟩), aggV r.f ur, aggV o.f uo, .bool hf] W fun e w' => e = .returned (.int .i64 (makeE A r o)) ∧ StG B z (makeA A r o hf) w' ∧ TT progT B W w' := by
  obtain ⟨F, vl, tabs, h1, h2, h3, hl, hc⟩ := h.open hs r
  have hBw := Nat.le_trans hB2 hB
  obtain ⟨po, er, hTR⟩ := TabR.of tabs r
  have her : er ≠ 1 := by rcases hTR with ⟨_, _, rfl⟩ | ⟨_, _, _, _, rfl⟩ <;> decide
  have old : makeE A r o ≠ 0 → ∀ {n : Int}, makeE A r o = n → ∀ {e : Ending} {w' : World}, e = .returned (.int .i64 n) ∧ Below W.heap.size W w' → e = .returned (.int .i64 (makeE A r o)) ∧ StG B z (makeA A r o hf) w' ∧ TT progT B W w' := fun hne n hn e w' ⟨he, hb⟩ => by
    have e2 : makeA A r o hf = A := by unfold makeA; rw [if_neg hne]
    rw [e2, hn]
    exact ⟨he, h.below hb, TT.new hb⟩
  have bad : (decide (r.f.kind = 3) && decide (o.f.kind = 6) && validT r && validT o) = false → makeE A r o = 2 := fun hq => by unfold makeE; rw [hq, if_neg (by decide)]
  have good : (decide (r.f.kind = 3) && decide (o.f.kind = 6) && validT r && validT o) = true → makeE A r o = (match refA A r with | some _ => 8 | none => if 64 ≤ A.length then 5 else 0) := fun hq => by unfold makeE; rw [hq, if_pos rfl]
  by_cases k1 : r.f.kind = 3
  rotate_left
  · have hm := bad (by rw [decide_eq_false k1]; rfl)
    exact (make17a h1 hl hBw hI hJ hnr hno hf her hTR k1).mono (fun e w' hp => old (by omega) hm hp)
  by_cases k2 : o.f.kind = 6
  rotate_left
  · have hm := bad (by rw [decide_eq_false k2]; simp)
    exact (make17b h1 hl hBw hI hJ hnr hno hf her hTR k1 k2).mono (fun e w' hp => old (by omega) hm hp)
  cases k3 : validT r
  · have hm := bad (by rw [k3]; simp)
    exact (make17c h1 hl hBw hI hJ hnr hno hf her hTR k1 k2 k3).mono (fun e w' hp => old (by omega) hm hp)
  cases k4 : validT o
  · have hm := bad (by rw [k4]; simp)
    exact (make17d h1 hl hBw hI hJ hnr hno hf her hTR k1 k2 k3 k4).mono (fun e w' hp => old (by omega) hm hp)
  have hg := good (by rw [decide_eq_true k1, decide_eq_true k2, k3, k4]; rfl)
  rcases hc with ⟨c1, c2, c3⟩ | ⟨i, hi, c1, c2, c3, c4, c5, c6⟩
  · rw [c1] at hg
    dsimp only at hg
    have hle : A.length = tabs.length := by rw [← h2, List.length_map]
    by_cases hfull : 64 ≤ A.length
    · rw [if_pos hfull] at hg
      have he0 : er ≠ 0 := by
        rcases hTR with ⟨_, _, rfl⟩ | ⟨i, _, e, _, _⟩
        · decide
        · rw [c2] at e; cases e
      exact (make17f h1 hl hBw hI hJ hnr hno hf her hTR k1 k2 k3 k4 he0 (by show 64 ≤ tabs.length; omega)).mono (fun e w' hp => old (by omega) hg hp)
    · rw [if_neg hfull] at hg
      have e2 : makeA A r o hf = A ++ [⟨r, o, hf, []⟩] := by unfold makeA; rw [if_pos hg]
      rw [hg, e2]
      refine (make17y h1 hB hl hB2 hI hJ hnr hno k3 k4 k1 k2 hf (by show tabs.length < 64; omega) c2).mono ?_
      rintro e w' ⟨rfl, F1, ur', uo', vl', b, h4, h5, _⟩
      refine ⟨rfl, ⟨F1, vl', _, h4, ?_, fun t ht => ?_⟩, h5⟩
      · rw [List.map_append, h2]; rfl
      · rcases List.mem_append.1 ht with ht | ht
        · exact h3 t ht
        · obtain rfl := List.mem_singleton.1 ht
          exact ⟨fun r hr => (nomatch hr), fun r hr => (nomatch hr), List.Pairwise.nil, fun r hr => (nomatch hr)⟩
  · rw [c1] at hg
    dsimp only at hg
    exact (make17t h1 hB hl hB2 hI hJ hnr hno k3 k4 k1 k2 hf hi c2).mono (fun e w' hp => old (by omega) hg hp)
end
end Go.Proofs.YtfbggmbmgohiiaaGreat.tb
namespace Go.Proofs.YtfbggmbmgohiiaaGreat.tm
open Go.RowKit mem
end Go.Proofs.YtfbggmbmgohiiaaGreat.tm
namespace Go.Proofs.YtfbggmbmgohiiaaGreat.tb
open Go.RowKit mem rec tm names
structure RRw (N : Nat) where
  k : Tm (N + 1)
  v : Tm (N + 1)
  uk : Value
  uv : Value
def rrL {N : Nat} (r : RRw N) : List Value := nineL r.k.f r.uk ++ nineL r.v.f r.uv
structure RTb (N : Nat) where
  ref : Tm (N + 1)
  own : Tm (N + 1)
  ur : Value
  uo : Value
  hs : Bool
  vr : Value
  rows : List (RRw N)
def rtL {N : Nat} (t : RTb N) : List Value := nineL t.ref.f t.ur ++ (nineL t.own.f t.uo ++ [.bool t.hs, t.vr])
structure RTbAt {N : Nat} (w : World) (B : Nat) (t : RTb N) : Prop where
  rows : RecOwn rrL 55 18 w B t.vr t.rows
  iref : ItemsAt w B N t.ur t.ref.items
  iown : ItemsAt w B N t.uo t.own.items
  irow : ∀ r ∈ t.rows, ItemsAt w B N r.uk r.k.items ∧ ItemsAt w B N r.uv r.v.items
structure RfAt {N : Nat} (w : World) (B y : Nat) (lv : Value) (T : List (RTb N)) : Prop where
  obj : w.heap[y]? = some (.cells #[lv] 39)
  l : RecOwn rtL 53 20 w B lv T
  tabs : ∀ t ∈ T, RTbAt w B t
  low : B ≤ y
def refT3 (t : TypeId) : Prop := t = 39 ∨ t = 53 ∨ t = 55
def absRT {N : Nat} (t : RTb N) : TabA N := ⟨t.ref, t.own, t.hs, t.rows.map (fun r => (r.k, r.v))⟩
section
variable {N : Nat} {w w' : World} {B y : Nat} {lv : Value} {T : List (RTb N)} {t : RTb N}
theorem it_one {n : Nat} {v : Value} {l : List (Tm n)} (h : ItemsAt w B n v l) : v.oneCell' = true := by
  obtain ⟨p, c, rfl, _, _⟩ := h.shape
  rfl
theorem RTbAt.enc (h : RTbAt w B t) : EncOK rrL 18 t.rows := fun r hr => ⟨rfl, fun u hu => by
  obtain ⟨h1, h2⟩ := h.irow r hr
  unfold rrL at hu
  rcases List.mem_append.1 hu with hu | hu
  · exact nineL_one (it_one h1) u hu
  · exact nineL_one (it_one h2) u hu⟩
theorem RfAt.enc (h : RfAt w B y lv T) : EncOK rtL 20 T := fun t ht => ⟨rfl, fun u hu => by
  have ht := h.tabs t ht
  obtain ⟨p, c, e, _, _⟩ := ht.rows.shape
  unfold rtL at hu
  rcases List.mem_append.1 hu with hu | hu
  · exact nineL_one (it_one ht.iref) u hu
  rcases List.mem_append.1 hu with hu | hu
  · exact nineL_one (it_one ht.iown) u hu
  · simp at hu
    rcases hu with rfl | rfl
    · rfl
    · rw [e]; rfl⟩
theorem RTbAt.keep (h : RTbAt w B t) (hl : ∀ g, g < B → w'.heap[g]? = w.heap[g]?) (ho : ∀ g, t.vr.ownBlock = some g → w'.heap[g]? = w.heap[g]?) : RTbAt w' B t :=
  ⟨h.rows.same ho, h.iref.same hl, h.iown.same hl, fun r hr => ⟨(h.irow r hr).1.same hl, (h.irow r hr).2.same hl⟩⟩
theorem RfAt.keep (h : RfAt w B y lv T) (hl : ∀ g, g < B → w'.heap[g]? = w.heap[g]?) (ho : ∀ g t, tyOf w g = some t → refT3 t → w'.heap[g]? = w.heap[g]?) : RfAt w' B y lv T :=
  ⟨(ho y 39 (tyOf_of h.obj) (.inl rfl)).trans h.obj, h.l.same (fun g hg => ho g 53 (ownTy h.l hg) (.inr (.inl rfl))), fun t ht => (h.tabs t ht).keep hl (fun g hg => ho g 55 (ownTy (h.tabs t ht).rows hg) (.inr (.inr rfl))), h.low⟩
theorem RfAt.ylt (h : RfAt w B y lv T) : y < w.heap.size := (Array.getElem?_eq_some_iff.1 h.obj).1
theorem RfAt.blt (h : RfAt w B y lv T) : B ≤ w.heap.size := Nat.le_trans h.low (Nat.le_of_lt h.ylt)
theorem tyOf_lt {g : Nat} {t : TypeId} (h : tyOf w g = some t) : g < w.heap.size := by
  unfold tyOf at h
  by_cases hg : g < w.heap.size
  · exact hg
  · rw [Array.getElem?_eq_none (by omega)] at h
    cases h
theorem RfAt.below (h : RfAt w B y lv T) (hb : Below w.heap.size w w') : RfAt w' B y lv T := h.keep (fun g hg => hb.block g (by have := h.blt; omega)) (fun g t ht _ => hb.block g (tyOf_lt ht))
theorem RfAt.prog (h : RfAt w B y lv T) (ht : TT progT B w w') : RfAt w' B y lv T :=
  h.keep (fun g hg => (ht.below h.blt).block g hg) (fun g t hty hT => ht.keep (tyOf_lt hty) (fun t' ht' hP => by
    rw [hty] at ht'
    obtain rfl := Option.some.inj ht'
    unfold refT3 at hT
    unfold progT at hP
    rcases hT with rfl | rfl | rfl <;> rcases hP with hP | hP | hP | hP <;> exact absurd hP (by decide)))
theorem StG.ref {z : Nat} {A : List (TabA N)} (h : StG B z A w) (ht : TT refT3 B w w') : StG B z A w' := by
  obtain ⟨F, vl, tabs, h1, h2⟩ := h
  refine ⟨F, vl, tabs, h1.same (fun k hk hq => ht.keep hk (fun t' ht' hP => ?_)) ht.size, h2⟩
  unfold refT3 at hP
  rcases hq with hF | ⟨t, hty, hT⟩
  · rw [F_ty h1 hF] at ht'
    obtain rfl := Option.some.inj ht'
    rcases hP with hP | hP | hP <;> exact absurd hP (by decide)
  · rw [hty] at ht'
    obtain rfl := Option.some.inj ht'
    unfold progT at hT
    rcases hT with rfl | rfl | rfl | rfl <;> rcases hP with hP | hP | hP <;> exact absurd hP (by decide)
noncomputable def refR (T : List (RTb N)) (r : Tm (N + 1)) : Option Nat := T.findIdx? (fun t => eqB t.ref r)
theorem refR_abs (T : List (RTb N)) (r : Tm (N + 1)) : refA (T.map absRT) r = refR T r := by
  unfold refA refR
  rw [List.findIdx?_map]
  rfl
theorem rec_rng {α : Type} {enc : α → List Value} {s : Nat} {p : Option Addr} {c : Nat} {l : List α} (h : RecAt enc s w B (.slice p l.length c) l) {i : Nat} (hi : i < l.length) : ∃ g o, p = some ⟨g, o, none⟩ ∧ g < B ∧ w.rangeAt g (o + i * s) (enc l[i]) := by
  obtain ⟨g, o, e, _, hg, hc⟩ := h.nth (by omega)
  refine ⟨g, o, e, hg, fun k u hk => ?_⟩
  have := hc i l[i] (List.getElem?_eq_getElem hi) k u hk
  rwa [← Nat.add_assoc] at this
end
theorem valid_flatN {N : Nat} {f : TF} (h1 : inB f.kind 0 10 = true) (h2 : okF f 0 (lastK N ([] : List (Tm N))) = true) (h3 : { bareF f with kind := 0 } = zeroF) (h4 : sizeF f 0 ≤ 2000) : validT (Tm.mk (n := N) f []) = true := by
  have e1 : (Tm.mk (n := N) f []).f = f := rfl
  have e2 : (Tm.mk (n := N) f []).items = [] := rfl
  have h3' : bareOK f 0 = true := by
    unfold bareOK
    rw [eqB_t h3]
    simp
  have e3 : formedL N [] = true := by unfold formedL; cases N <;> rfl
  have e4 : wholeL N [] = 0 := by unfold wholeL; cases N <;> rfl
  unfold validT formedT okT wholeT
  rw [e1, e2, e3, e4]
  simp only [List.length_nil, h1, h2, h3', Bool.and_self, Bool.true_and, decide_eq_true_eq]
  omega
theorem lastK_nil {N : Nat} : lastK N ([] : List (Tm N)) = lastK 0 ([] : List (Tm 0)) := by cases N <;> rfl
theorem ref_validN {N : Nat} (k : Int) (h : 1 ≤ k ∧ k ≤ 1000) : validT (refT (N := N) k) = true := by
  refine valid_flatN (by kernel_rfl) ?_ rfl (by show (1 : Int) ≤ 2000; decide)
  rw [lastK_nil]
  have h1 : inB k 1 1000 = true := by unfold inB; simp; omega
  unfold okF
  simp only
  have hv : vName nmN = true := by kernel_rfl
  have h2 : ∀ a b : Int, a ≤ 1 → 1000 ≤ b → inB k a b = true := fun a b ha hb => by unfold inB; simp; omega
  have h5 : inB 1 1 2147483647 = true := by kernel_rfl
  simp [h2, hv, h5]
  try (unfold inB; simp; omega)
theorem pid_validN {N : Nat} (k : Int) (h : 1 ≤ k ∧ k ≤ 1000) : validT (pidT (N := N) k) = true := by
  refine valid_flatN (by kernel_rfl) ?_ rfl (by show (1 : Int) ≤ 2000; decide)
  rw [lastK_nil]
  unfold okF
  simp only
  have hv : vName nmN = true := by kernel_rfl
  have h2 : ∀ a b : Int, a ≤ 1 → 1000 ≤ b → inB k a b = true := fun a b ha hb => by unfold inB; simp; omega
  have h5 : inB 1 1 2147483647 = true := by kernel_rfl
  simp [h2, hv, h5]
  try (unfold inB; simp; omega)
theorem flat_nodesN {N : Nat} (f : TF) : nodesT (Tm.mk (n := N) f []) ≤ 100000000 := by
  unfold nodesT
  have : (Tm.mk (n := N) f []).items = [] := rfl
  rw [this]
  cases N <;> (unfold nodesL; simp)
section
variable {N : Nat}
def two {N : Nat} (hs : Bool) (R : List (Tm (N + 1) × Tm (N + 1))) : List (TabA N) := [⟨refT 1, pidT 1, hs, R⟩, ⟨refT 2, pidT 1, !hs, []⟩]
variable {hs : Bool} {R : List (Tm (N + 1) × Tm (N + 1))} {k v : Tm (N + 1)}
structure GoodR (hs : Bool) (R : List (Tm (N + 1) × Tm (N + 1))) : Prop where
  sd : SortR (cmpH hs) R
  vd : ∀ x ∈ R, Vd x.1
theorem GoodR.nil : GoodR (N := N) hs [] := ⟨List.Pairwise.nil, fun x hx => (nomatch hx)⟩
theorem GoodR.put (h : GoodR hs R) (hk : validT k = true) (v : Tm (N + 1)) : GoodR hs (putR (cmpH hs) R k v) := by
  refine ⟨putR_sort (ordH hs) h.sd hk h.vd v, fun x hx => ?_⟩
  obtain ⟨a, b⟩ := x
  rcases (putR_mem (ordH hs) h.sd hk h.vd v a b).1 hx with ⟨rfl, _⟩ | ⟨_, hx⟩
  · exact hk
  · exact h.vd _ hx
theorem GoodR.has (h : GoodR hs R) : hasR (cmpH hs) R k = true ↔ ∃ v, getR (cmpH hs) R k = some v := by
  rw [hasR_iff (ordH hs) h.sd]
  exact ⟨fun ⟨v, hv⟩ => ⟨v, (getR_iff (ordH hs) h.sd).2 hv⟩, fun ⟨v, hv⟩ => ⟨v, (getR_iff (ordH hs) h.sd).1 hv⟩⟩
end
end Go.Proofs.YtfbggmbmgohiiaaGreat.tb
namespace Go.Proofs.YtfbggmbmgohiiaaGreat.tmt
open Go.RowKit mem names tm
def Ty24 (w : World) (g : Nat) : Prop := ∃ c f, w.heap[g]? = some (.cells c 24 f)
def ItemsT (Z : Nat) (w : World) (B : Nat) (n : Nat) (v : Value) (l : List (Tm n)) : Prop := ItemsIn w (fun g => g < B ∧ (g < Z ∨ Ty24 w g)) n v l
theorem ItemsT.A {Z : Nat} {w : World} {B n : Nat} {v : Value} {l : List (Tm n)} (h : ItemsT Z w B n v l) : ItemsAt w B n v l := ItemsIn.toAt (fun g hg => hg.1) h
theorem ItemsT.of {w : World} {B n : Nat} {v : Value} {l : List (Tm n)} (h : ItemsAt w B n v l) : ItemsT B w B n v l := ItemsIn.mono (fun _ _ => rfl) (fun g hg => ⟨hg, .inl hg⟩) h.toIn
theorem ItemsT.shape {Z : Nat} {w : World} {B n : Nat} {v : Value} {l : List (Tm n)} (h : ItemsT Z w B n v l) : ∃ p c, v = .slice p l.length c ∧ l.length ≤ c ∧ c ≤ maxLen := h.A.shape
theorem ItemsT.keep {Z : Nat} {w w' : World} {B n : Nat} {v : Value} {l : List (Tm n)} (h : ItemsT Z w B n v l) (hs : ∀ g, g < B → (g < Z ∨ Ty24 w g) → w'.heap[g]? = w.heap[g]?) : ItemsT Z w' B n v l :=
  ItemsIn.mono (w := w) (fun g hg => hs g hg.1 hg.2) (fun g hg => ⟨hg.1, hg.2.elim .inl (fun ⟨c, f, e⟩ => .inr ⟨c, f, (hs g hg.1 hg.2).trans e⟩)⟩) h
theorem ItemsT.same {Z : Nat} {w w' : World} {B n : Nat} {v : Value} {l : List (Tm n)} (h : ItemsT Z w B n v l) (hs : ∀ g, g < B → w'.heap[g]? = w.heap[g]?) : ItemsT Z w' B n v l := h.keep (fun g hg _ => hs g hg)
theorem ItemsT.below {Z : Nat} {w w' : World} {B B' : Nat} {n : Nat} {v : Value} {l : List (Tm n)} (h : ItemsT Z w B n v l) (hb : Below B' w w') (hB : B ≤ B') : ItemsT Z w' B n v l := h.same fun g hg => hb.block g (by omega)
theorem ItemsT.more {Z : Nat} {w : World} {B B' : Nat} {n : Nat} {v : Value} {l : List (Tm n)} (h : ItemsT Z w B n v l) (hB : B ≤ B') : ItemsT Z w B' n v l := ItemsIn.mono (fun _ _ => rfl) (fun g hg => ⟨by omega, hg.2⟩) h
theorem ItemsT.nil_any {Z : Nat} {w : World} {B n c : Nat} {p : Option Addr} (hc : c ≤ maxLen) : ItemsT Z w B n (.slice p 0 c) ([] : List (Tm n)) := ItemsIn.nil_any hc
theorem ItemsT.at_ {Z : Nat} {w : World} {B n : Nat} {v : Value} {l : List (Tm (n + 1))} (h : ItemsT Z w B (n + 1) v l) (hne : l ≠ []) : ∃ g o c, v = .slice (some ⟨g, o, none⟩) l.length c ∧ l.length ≤ c ∧ c ≤ maxLen ∧ g < B ∧
    ∀ j, (h : j < l.length) → ∃ u, Cells w g (o + j * 9) (l[j]).f u ∧ ItemsT Z w B n u (l[j]).items := by
  obtain ⟨p, c, e, h1, h2, h3⟩ := h
  obtain ⟨g, o, rfl, hg, hc⟩ := h3 hne
  exact ⟨g, o, c, e, h1, h2, hg.1, hc⟩
variable {n : Nat} {w w' : World} {B Z : Nat}
theorem ItemsT.rows {l : List (Tm (n + 1))} {g o c : Nat} (h : ItemsT Z w B (n + 1) (.slice (some ⟨g, o, none⟩) l.length c) l) : ∃ rs : List (TF × Value), rs.length = l.length ∧ (∀ j, (h1 : j < rs.length) → (h2 : j < l.length) → rs[j].1 = l[j].f ∧ ItemsT Z w B n rs[j].2 l[j].items) ∧
    (∀ j u, (flatR rs)[j]? = some u → w.cell? ((⟨g, o, none⟩ : Addr).add j) = some u) ∧ ∀ u ∈ flatR rs, u.oneCell' = true := by
  obtain ⟨p, c', e, h1, h2, h3⟩ := h
  simp only [Value.slice.injEq, true_and] at e
  obtain ⟨rfl, rfl⟩ := e
  have key : ∀ k, k ≤ l.length → ∃ rs : List (TF × Value), rs.length = k ∧ ∀ j, (h1 : j < rs.length) → (h2 : j < l.length) → rs[j].1 = l[j].f ∧ ItemsT Z w B n rs[j].2 l[j].items ∧ Cells w g (o + j * 9) rs[j].1 rs[j].2 := by
    intro k
    induction k with
    | zero => intro _; exact ⟨[], rfl, fun j h => by simp at h⟩
    | succ k ih =>
      intro hk
      obtain ⟨rs, hl, hr⟩ := ih (by omega)
      obtain ⟨g', o', e, hg, hc⟩ := h3 (by intro e; subst e; simp at hk)
      simp only [Option.some.injEq, Addr.mk.injEq, and_true] at e
      obtain ⟨rfl, rfl⟩ := e
      obtain ⟨u, hu1, hu2⟩ := hc k (by omega)
      refine ⟨rs ++ [((l[k]'(by omega)).f, u)], by simp [hl], fun j h1 h2 => ?_⟩
      by_cases hj : j < rs.length
      · rw [List.getElem_append_left hj]; exact hr j hj h2
      · have : j = k := by simp at h1; omega
        subst this
        rw [List.getElem_append_right (by omega)]
        simp only [hl, Nat.sub_self, List.getElem_cons_zero]
        first | exact ⟨rfl, hu2, hu1⟩ | exact ⟨trivial, hu2, hu1⟩
  obtain ⟨rs, hl, hr⟩ := key l.length (Nat.le_refl _)
  refine ⟨rs, hl, fun j h1 h2 => ⟨(hr j h1 h2).1, (hr j h1 h2).2.1⟩, fun j u hj => ?_, fun u hu => ?_⟩
  · rw [Addr.add_lit]
    have hjl : j < (flatR rs).length := (List.getElem?_eq_some_iff.1 hj).1
    rw [flatR_len] at hjl
    have hq : j / 9 < rs.length := by omega
    have := (hr (j / 9) hq (by omega)).2.2.all (j % 9) (Nat.mod_lt _ (by omega))
    rw [← flatR_get rs (j / 9) hq (j % 9) (Nat.mod_lt _ (by omega))] at this
    rw [show j / 9 * 9 + j % 9 = j by omega, show o + j / 9 * 9 + j % 9 = o + j by omega] at this
    rw [this, hj]
  · unfold flatR at hu
    rw [List.mem_flatMap] at hu
    obtain ⟨r, hr1, hr2⟩ := hu
    obtain ⟨j, hj, rfl⟩ := List.getElem_of_mem hr1
    obtain ⟨_, hi, _⟩ := hr j hj (by omega)
    obtain ⟨q, c2, e, _⟩ := hi.shape
    rw [e] at hr2
    exact nine_one _ _ _ _ u hr2
def RRowT {n : Nat} (Z : Nat) (wr : World) (B base : Nat) (v : Value) (rs : List (TF × Value)) (O : List (Tm (n + 1))) : Prop :=
  wr.ownsRow base 24 9 v O.length (flatR rs) ∧ rs.length = O.length ∧ ∀ j, (h1 : j < rs.length) → (h2 : j < O.length) → rs[j].1 = O[j].f ∧ ItemsT Z wr B n rs[j].2 O[j].items
theorem RRowT.nil (wr : World) (B base : Nat) : RRowT (n := n) Z wr B base (.slice none 0 0) [] [] := ⟨World.ownsRow_nil _ _ _ _, rfl, fun j h => by simp at h⟩
theorem RRowT.items {wr : World} {B base : Nat} {v : Value} {rs : List (TF × Value)} {O : List (Tm (n + 1))} (h : RRowT Z wr B base v rs O) (hB : B ≤ wr.heap.size) : ItemsT Z wr wr.heap.size (n + 1) v O := by
  obtain ⟨h1, h2, h3⟩ := h
  rcases h1.2 with ⟨rfl, h0⟩ | ⟨g, cap, cur, rfl, hbg, hg, hc, hm, hs, ht⟩
  · have : O = [] := List.eq_nil_of_length_eq_zero h0
    subst this
    exact ItemsT.nil_any (by unfold maxLen; omega)
  · refine ⟨_, _, rfl, hc, hm, fun _ => ⟨g, 0, rfl, ⟨(Array.getElem?_eq_some_iff.1 hg).1, .inr ⟨_, _, hg⟩⟩, fun j hj => ?_⟩⟩
    have hj' : j < rs.length := by omega
    have := row_cells h1 (by omega) j hj'
    refine ⟨rs[j].2, ?_, (h3 j hj' hj).2.more hB⟩
    rw [Nat.zero_add, ← (h3 j hj' hj).1]
    exact this
theorem RRowT.below {wr w' : World} {B base : Nat} {v : Value} {rs : List (TF × Value)} {O : List (Tm (n + 1))} (h : RRowT Z wr B base v rs O) (hb : Below wr.heap.size wr w') (hB : B ≤ wr.heap.size) : RRowT Z w' B base v rs O := by
  obtain ⟨h1, h2, h3⟩ := h
  refine ⟨row_same h1 (fun k hk => hb.block k ?_), h2, fun j a b => ⟨(h3 j a b).1, (h3 j a b).2.below hb hB⟩⟩
  rcases h1.2 with ⟨rfl, h0⟩ | ⟨g, cap, cur, rfl, hbg, hg, _⟩
  · simp [Value.ownBlock] at hk
  · simp [Value.ownBlock] at hk
    subst hk
    exact (Array.getElem?_eq_some_iff.1 hg).1
theorem RRowT.push {wr w' : World} {B base : Nat} {v v' : Value} {rs rs' : List (TF × Value)} {O O' : List (Tm (n + 1))} (h : RRowT Z wr B base v rs O) (hl : rs'.length = O'.length) (h' : ∀ j, (h1 : j < rs'.length) → (h2 : j < O'.length) → rs'[j].1 = O'[j].f ∧ ItemsT Z wr B n rs'[j].2 O'[j].items)
    (hown : w'.ownsRow base 24 9 v' (O.length + O'.length) (flatR rs ++ flatR rs')) (hg : wr.grownBy w' v.ownBlock) (hv : ∀ k, v.ownBlock = some k → B ≤ k) (hB : B ≤ wr.heap.size) : RRowT Z w' B base v' (rs ++ rs') (O ++ O') := by
  obtain ⟨h1, h2, h3⟩ := h
  have hs : ∀ g, g < B → w'.heap[g]? = wr.heap[g]? := fun g hg' => hg.block g (by omega) (fun e => by have := hv g e.symm; omega)
  refine ⟨by rw [List.length_append, flatR_append]; exact hown, by simp [h2, hl], fun j a b => ?_⟩
  by_cases hj : j < rs.length
  · rw [List.getElem_append_left hj, List.getElem_append_left (by omega)]
    exact ⟨(h3 j hj (by omega)).1, (h3 j hj (by omega)).2.same hs⟩
  · rw [List.getElem_append_right (by omega), List.getElem_append_right (by omega)]
    have e : j - rs.length = j - O.length := by omega
    have := h' (j - O.length) (by simp at a b; omega) (by simp at a b; omega)
    simp only [e]
    exact ⟨this.1, this.2.same hs⟩
theorem RRowT.shape {wr : World} {B base : Nat} {v : Value} {rs : List (TF × Value)} {O : List (Tm (n + 1))} (h : RRowT Z wr B base v rs O) : ∃ p c, v = .slice p O.length c := by
  rcases h.1.2 with ⟨rfl, h0⟩ | ⟨g, cap, cur, rfl, _⟩
  · exact ⟨_, _, by rw [h0]⟩
  · exact ⟨_, _, rfl⟩
def RPostT {n : Nat} (Z : Nat) (l : List (Tm (n + 1))) (w : World) (e : Ending) (w' : World) : Prop := ∃ p c, e = .returned (.slice p l.length c) ∧ ItemsT Z w' w'.heap.size (n + 1) (.slice p l.length c) l ∧ Below w.heap.size w w'
def RPost2T {n : Nat} (Z : Nat) (l : List (Tm (n + 1))) (w W : World) (e : Ending) (w' : World) : Prop := ∃ p c, e = .returned (.slice p l.length c) ∧ ItemsT Z w' w'.heap.size (n + 1) (.slice p l.length c) l ∧ Below W.heap.size W w' ∧ Below w.heap.size w w'
theorem RPostT.on {n : Nat} {l : List (Tm (n + 1))} {w W w' : World} {e : Ending} (hb : Below w.heap.size w W) (h : RPostT Z l W e w') : RPost2T Z l w W e w' := by
  obtain ⟨p, c, h1, h2, h3⟩ := h
  exact ⟨p, c, h1, h2, h3, hb.trans (h3.mono hb.size)⟩
theorem ItemsT.elt {n : Nat} {w : World} {B g o c : Nat} {l : List (Tm (n + 1))} (h : ItemsT Z w B (n + 1) (.slice (some ⟨g, o, none⟩) l.length c) l) (i : Nat) (hi : i < l.length) : ∃ t x q m d, l[i]? = some t ∧ t.f = x ∧ Cells w g (o + i * 9) x (.slice q m d) ∧ ItemsT Z w B n (.slice q m d) t.items := by
  obtain ⟨p, c', e, h1, h2, h3⟩ := h
  simp only [Value.slice.injEq, true_and] at e
  obtain ⟨rfl, rfl⟩ := e
  obtain ⟨g', o', e, hg, hc⟩ := h3 (by intro e; subst e; simp at hi)
  simp only [Option.some.injEq, Addr.mk.injEq, and_true] at e
  obtain ⟨rfl, rfl⟩ := e
  obtain ⟨u, hu1, hu2⟩ := hc i hi
  obtain ⟨q, d, rfl, _⟩ := ItemsT.shape (Z := Z) (w := w) (B := B) hu2
  exact ⟨l[i], l[i].f, q, _, d, List.getElem?_eq_getElem hi, rfl, hu1, hu2⟩
theorem ItemsT.addr {n : Nat} {w : World} {B c : Nat} {p : Option Addr} {l : List (Tm (n + 1))} (h : ItemsT Z w B (n + 1) (.slice p l.length c) l) (hl : 0 < l.length) : ∃ g o, p = some ⟨g, o, none⟩ ∧ g < B := by
  obtain ⟨g, o, c', e, _, _, hg, _⟩ := h.at_ (by intro e; subst e; simp at hl)
  simp only [Value.slice.injEq, true_and] at e
  exact ⟨g, o, e.1, hg⟩
end Go.Proofs.YtfbggmbmgohiiaaGreat.tmt
namespace Go.Proofs.YtfbggmbmgohiiaaGreat.tb
open Go.RowKit mem rec tm names
structure LSt {N : Nat} (w : World) (z : Nat) (A : List (TabA N)) (W : World) : Prop where
  st : StG w.heap.size z A W
  tt : TT progT w.heap.size w W
section
variable {N : Nat} {w W W' : World} {z : Nat} {A A' : List (TabA N)}
theorem LSt.below (h : LSt w z A W) (hb : Below W.heap.size W W') : LSt w z A W' := ⟨h.st.below hb, h.tt.ofBelow hb⟩
theorem LSt.base (h : LSt w z A W) : Below w.heap.size w W := h.tt.below (Nat.le_refl _)
theorem LSt.size (h : LSt w z A W) : w.heap.size ≤ W.heap.size := h.base.size
theorem l_new (hb : Below w.heap.size w W) : Calls Tryz.prog 16 #[] W fun e w' => ∃ z, e = .returned (.pointer (some ⟨z, 0, none⟩)) ∧ LSt (N := N) w z [] w' := by
  refine (new16 (N := N) W w.heap.size hb.size).mono ?_
  rintro e w' ⟨rfl, h1, h2⟩
  exact ⟨_, rfl, ⟨_, nilV, [], h1, rfl, fun t ht => (nomatch ht)⟩, (TT.new hb).ofBelow h2⟩
variable {hs : Bool} {l : List (Tm (N + 1))} {R : List (Tm (N + 1) × Tm (N + 1))} {U : List (Tm (N + 1))}
end
end Go.Proofs.YtfbggmbmgohiiaaGreat.tb
