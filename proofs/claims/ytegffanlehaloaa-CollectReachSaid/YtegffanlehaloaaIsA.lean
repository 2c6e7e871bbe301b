/- Several texts in one, one behind the other: CsA. No condition beyond theirs. -/
import Derived.Test.YtegffanlehaloaaGt
/- Reach: the closure meet. Conditions: as said. -/
namespace Go.Proofs.Ytegffanlehaloaa.cl
open Go.RowKit mem words
set_option linter.unusedVariables false
set_option linter.unusedSimpArgs false
set_option maxHeartbeats 4000000
set_option maxRecDepth 100000
def seen (l : List Int) : List (Int × Value) := l.map fun p => (p, Value.bool true)
theorem seen_find {v : Int} : ∀ {l : List Int}, alFind (seen l) v = if v ∈ l then some (.bool true) else none := by
  intro l
  induction l with
  | nil => rfl
  | cons a l ih =>
    unfold seen alFind at ih ⊢
    rw [List.map_cons, List.find?_cons]
    by_cases hv : v = a
    · subst hv; simp
    · simp only [hv, decide_false, List.mem_cons, false_or]
      exact ih
theorem seen_put {l : List Int} {v : Int} (hv : v ∉ l) : alPut (seen l) v (.bool true) = seen (l ++ [v]) := by
  have h1 : alIdx (seen l) v = none := by
    have h := alFind_idx (seen l) v
    rw [seen_find, if_neg hv] at h
    cases hx : alIdx (seen l) v with
    | none => rfl
    | some j => rw [hx] at h; simp at h
  unfold alPut
  rw [h1]
  unfold seen
  rw [List.map_append]
  rfl
theorem zero4 (w : World) : (zeroValue 4).run Try.prog w = .ok (.bool false) w := by kernel_rfl
structure MeetAt (w : World) (base zm zl mp : Nat) (vL : Value) (l : List Int) : Prop where
  bm : w.heap[zm]? = some (.cells #[.map (some mp)] 86)
  bl : w.heap[zl]? = some (.cells #[vL] 22)
  rl : WOwn w base vL l
  fm : MapIs (Value.int .u64) w mp (seen l)
  gm : base ≤ zm
  gl : base ≤ zl
  gp : base ≤ mp
  ml : zm ≠ zl
  mm : zm ≠ mp
  lm : zl ≠ mp
  dm : vL.ownBlock ≠ some zm
  dl : vL.ownBlock ≠ some zl
  dp : vL.ownBlock ≠ some mp
def MeetB (zl mp : Nat) (vL : Value) (k : Nat) : Prop := k = zl ∨ k = mp ∨ vL.ownBlock = some k
theorem MeetAt.lt {w : World} {base zm zl mp : Nat} {vL : Value} {l : List Int} (h : MeetAt w base zm zl mp vL l) : base < w.heap.size := Nat.lt_of_le_of_lt h.gm (Array.getElem?_eq_some_iff.1 h.bm).1
theorem MeetAt.ge {w : World} {base zm zl mp : Nat} {vL : Value} {l : List Int} (h : MeetAt w base zm zl mp vL l) {k : Nat} (hk : MeetB zl mp vL k) : base ≤ k := by
  rcases hk with rfl | rfl | hk
  · exact h.gl
  · exact h.gp
  · exact (h.rl.ge k hk).1
theorem MeetAt.below {w w' : World} {base zm zl mp : Nat} {vL : Value} {l : List Int} (h : MeetAt w base zm zl mp vL l) (hb : Below w.heap.size w w') : MeetAt w' base zm zl mp vL l :=
  ⟨blk_same h.bm hb, blk_same h.bl hb, h.rl.below hb, h.fm.same (hb.block _ h.fm.lt), h.gm, h.gl, h.gp, h.ml, h.mm, h.lm, h.dm, h.dl, h.dp⟩
theorem MeetAt.push {w w1 w2 : World} {base zm zl mp : Nat} {vL v' : Value} {l : List Int} {v : Int} {o : Obj} (h : MeetAt w base zm zl mp vL l) (hv : v ∉ l) (hm : MapIs (Value.int .u64) w1 mp (alPut (seen l) v (.bool true))) (ht : TouchB (fun i => i = mp) w w1) (ha : AppW (w1.alloc o) base vL l [v] v' w2) :
    MeetAt (w2.setCell ⟨zl, 0, none⟩ v') base zm zl mp v' (l ++ [v]) ∧ TouchB (MeetB zl mp vL) w (w2.setCell ⟨zl, 0, none⟩ v') ∧ ColN w vL v' := by
  rw [seen_put hv] at hm
  have hzm := (Array.getElem?_eq_some_iff.1 h.bm).1
  have hzl := (Array.getElem?_eq_some_iff.1 h.bl).1
  have hmp := h.fm.lt
  have hs1 := ht.size
  have hsa : (w1.alloc o).heap.size = w1.heap.size + 1 := World.size_alloc _ _
  have al : ∀ {k : Nat}, k < w1.heap.size → (w1.alloc o).heap[k]? = w1.heap[k]? := fun hk => Below.heap_alloc _ _ _ hk
  have step : ∀ {k : Nat}, k < w1.heap.size → vL.ownBlock ≠ some k → w2.heap[k]? = w1.heap[k]? := fun hk hn => (ha.other (by rw [hsa]; omega) hn).trans (al hk)
  have place : ∀ {k : Nat}, k < w1.heap.size → vL.ownBlock ≠ some k → v'.ownBlock ≠ some k := fun hk hn => ha.place (by rw [hsa]; omega) hn
  refine ⟨⟨?_, ?_, ?_, ?_, h.gm, h.gl, h.gp, h.ml, h.mm, h.lm, place (by omega) h.dm, place (by omega) h.dl, place (by omega) h.dp⟩, ?_, ?_⟩
  · rw [setC_same _ _ _ _ h.ml, step (by omega) h.dm, ht.block _ hzm h.mm]; exact h.bm
  · exact blk_setC ((step (by omega) h.dl).trans ((ht.block _ hzl h.lm).trans h.bl)) v'
  · exact ownBlock_same ha.own (fun k hk => setC_same w2 zl 0 v' (fun e => place (by omega) h.dl (e ▸ hk)))
  · exact hm.same (by rw [setC_same _ _ _ _ (Ne.symm h.lm), step (by omega) h.dp])
  · refine TouchB.setCell ?_ _ _ (fun _ => .inl rfl)
    refine (((ht.mono (S' := MeetB zl mp vL) (fun i _ e => .inr (.inl e))).alloc o).grown ha.grown (fun k e _ => .inr (.inr e)))
  · rcases ha.at_ with e | e
    · exact .inl e
    · exact .inr ⟨_, e, by rw [hsa]; omega⟩
theorem MeetAt.rl2 {w w1 : World} {base zm zl mp : Nat} {vL : Value} {l : List Int} (h : MeetAt w base zm zl mp vL l) (ht : TouchB (fun i => i = mp) w w1) (o : Obj) : WOwn (w1.alloc o) base vL l :=
  (ownBlock_same h.rl (fun k hk => ht.block k (own_lt h.rl hk) (fun e => h.dp (e ▸ hk)))).below (belowA (Below.refl _ _) _)
theorem MeetAt.sz2 {w w1 : World} {base zm zl mp : Nat} {vL : Value} {l : List Int} (h : MeetAt w base zm zl mp vL l) (ht : TouchB (fun i => i = mp) w w1) (o : Obj) : base ≤ (w1.alloc o).heap.size := by
  have h1 := h.lt
  have h2 := ht.size
  rw [World.size_alloc]
  omega
theorem MeetAt.bl2 {w w1 w2 : World} {base zm zl mp : Nat} {vL v' : Value} {l : List Int} {v : Int} {o : Obj} (h : MeetAt w base zm zl mp vL l) (ht : TouchB (fun i => i = mp) w w1) (ha : AppW (w1.alloc o) base vL l [v] v' w2) : w2.heap[zl]? = some (.cells #[vL] 22) := by
  have hzl := (Array.getElem?_eq_some_iff.1 h.bl).1
  have hs1 := ht.size
  have hsa : (w1.alloc o).heap.size = w1.heap.size + 1 := World.size_alloc _ _
  rw [ha.other (by rw [hsa]; omega) h.dl, Below.heap_alloc _ _ _ (by omega), ht.block _ hzl h.lm]
  exact h.bl
def MeetP (w : World) (base zm zl mp : Nat) (vL : Value) (l : List Int) (v : Int) (e : Ending) (w' : World) : Prop := e = .returned (.tuple #[]) ∧ ∃ vL', MeetAt w' base zm zl mp vL' (metW l v) ∧ TouchB (MeetB zl mp vL) w w' ∧ ColN w vL vL'
theorem meet41 {w : World} {base zm zl mp : Nat} {vL : Value} {l : List Int} (h : MeetAt w base zm zl mp vL l) (v : Int) (v0 : 0 ≤ v) (v1 : v ≤ 18446744073709551615) (hl : l.length ≤ 200000) :
    Calls Try.prog 41 #[.int .u64 v, .pointer (some ⟨zm, 0, none⟩), .pointer (some ⟨zl, 0, none⟩)] w (MeetP w base zm zl mp vL l v) := by
  have hlk := run_lookup key34 Try.underlying86 h.fm v (zero4 w)
  rw [seen_find] at hlk
  have HPp := Lib.hid (fun W => Pointer v v0 v1 W)
  obtain ⟨a0, a0f⟩ := one_cell h.bm
  obtain ⟨b0, b0f⟩ := one_cell h.bl
  obtain ⟨pL, cL, eL⟩ := h.rl.shape
  have HH := Lib.hid h
  have HLn : Hid (l.length + 1 ≤ 400000) := Lib.hid (by omega)
  have HBs : Hid (base ≤ w.heap.size) := Lib.hid (Nat.le_of_lt h.lt)
  by_cases hp : pOk v = true
  · by_cases hv : v ∈ l
    · have HG : Hid (metW l v = l) := Lib.hid (by unfold metW; rw [if_neg (fun hh => hh.2 hv)])
      rw [if_pos hv] at hlk
      rw [hp] at HPp
      clear h hl hv eL HLn
      go_enter Try.func41, Try.ntmps41
      go_wp2_with fail
      refine (HPp.out _).mono ?_
      rintro e w' ⟨rfl, rfl⟩
      go_wp2_with fail
      go_end0
      exact ⟨rfl, vL, by rw [HG.out]; exact HH.out, TouchB.refl _ _, ColN.refl _ _⟩
    · have HG : Hid (metW l v = l ++ [v]) := Lib.hid (by unfold metW; rw [if_pos ⟨hp, hv⟩])
      rw [if_neg hv] at hlk
      rw [hp] at HPp
      have HV := Lib.hid hv
      clear h hl hv
      subst eL
      go_enter Try.func41, Try.ntmps41
      go_wp2_with fail
      refine (HPp.out _).mono ?_
      rintro e w' ⟨rfl, rfl⟩
      go_wp2_with (first
        | (at_mapUpdate; refine wpList_mapUpdate_al _ rfl _ _ _ 86 rfl key34 Try.underlying86 mp (seen l) HH.out.fm v (.bool true) rfl rfl rfl ?_; intro w4 hm4 ht4 hz4; have HM4 := Lib.hid hm4; have HT4 := Lib.hid ht4; obtain ⟨c0, c0f⟩ := one_cell ((ht4.block zl (Array.getElem?_eq_some_iff.1 HH.out.bl).1 HH.out.lm).trans HH.out.bl); clear hm4 ht4 hz4)
        | (at_builtin; refine wpList_append_words rfl (.tmp 22) (.tmp 24) rfl rfl (HH.out.rl2 HT4.out _) (HH.out.sz2 HT4.out _) ⟨w4.heap.size, 0, none⟩ 1 1 [v] rfl rfl (new_word _ _) HLn.out ?_; intro v' w5 ha; have HA := Lib.hid ha; obtain ⟨p5, n5, c5, rfl⟩ := own_slice ha.own; obtain ⟨d0, d0f⟩ := one_cell (HH.out.bl2 HT4.out ha); clear ha))
      go_end0
      obtain ⟨g1, g2, g3⟩ := HH.out.push HV.out HM4.out HT4.out HA.out
      exact ⟨rfl, _, by rw [HG.out]; exact g1, g2, g3⟩
  · have HG : Hid (metW l v = l) := Lib.hid (by unfold metW; rw [if_neg (fun hh => hp hh.1)])
    have hpf : pOk v = false := by simpa using hp
    rw [hpf] at HPp
    clear h hl hp hpf eL HLn hlk
    go_enter Try.func41, Try.ntmps41
    go_wp2_with fail
    refine (HPp.out _).mono ?_
    rintro e w' ⟨rfl, rfl⟩
    go_wp2_with fail
    go_end0
    exact ⟨rfl, vL, by rw [HG.out]; exact HH.out, TouchB.refl _ _, ColN.refl _ _⟩
end Go.Proofs.Ytegffanlehaloaa.cl
