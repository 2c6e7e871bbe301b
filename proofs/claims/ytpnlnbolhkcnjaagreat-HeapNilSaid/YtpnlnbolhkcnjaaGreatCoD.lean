
/- Copying collection: the new memory has shape, and holds the same graph, in plain Lean. Conditions: as said. -/
import Derived.Test.YtpnlnbolhkcnjaaGreatCoC
namespace Go.Proofs.YtpnlnbolhkcnjaaGreat.cl
open words
set_option linter.unusedVariables false
set_option linter.unusedSimpArgs false

theorem tm_ptr {B : Bk} {v : Int} (h : Tm B v) (hp : pOk v = true) : ∃ x, Pt B v x := by
  have h1 := (pOk_iff v).1 hp
  rcases h with h | h | h | h
  · unfold soOk at h
    have := of_decide_eq_true h
    omega
  · unfold aoOk at h
    have := of_decide_eq_true h
    omega
  · omega
  · exact h
theorem tm_not {B B' : Bk} {v : Int} (h : Tm B v) (hp : pOk v = false) : Tm B' v := by
  rcases h with h | h | h | ⟨x, h⟩
  · exact .inl h
  · exact .inr (.inl h)
  · exact .inr (.inr (.inl h))
  · rw [h.1] at hp; exact Bool.noConfusion hp
theorem tm_tag {B : Bk} {v : Int} (h : Tm B v) : v % 4 ≠ 0 := by
  rcases h with h | h | h | ⟨x, h⟩
  · unfold soOk at h
    have := of_decide_eq_true h
    omega
  · unfold aoOk at h
    have := of_decide_eq_true h
    omega
  · omega
  · have := (pOk_iff v).1 h.1
    omega
/-- words are not negative -/
def Nn (B : Bk) : Prop := ∀ b, ∀ o ∈ B.s b, ∀ v ∈ o, 0 ≤ v
theorem fol_sub {x : List Int} {v : Int} (h : v ∈ fol x) : v ∈ x := List.mem_of_mem_drop h
theorem ob_pt {B : Bk} (hB : B.pos) {w : Int} (h : ∃ x, Pt B w x) : Pt B w (ob B w) := by
  obtain ⟨x, hx⟩ := h
  rw [hx.ob hB]
  exact hx
/-- what is followed from an object of a memory that has shape -/
theorem Sh.fol {m : Mm} {B : Bk} (h : Sh m B) (hn : Nn B) {w v : Int} (hw : ∃ x, Pt B w x) (w0 : 0 ≤ w) (hv : v ∈ folB B w) : Tm B v ∧ 0 ≤ v ∧ (pOk v = true → pOld v = false → pOld w = false ∧ (pIx w < m.at_ → pIx v < m.at_)) := by
  have hp := ob_pt h.pos hw
  obtain ⟨h1, h2⟩ := (h.ok _ _ _ hp.2.1).2 v hv
  have hb := hp.2.1.bound
  refine ⟨h1, hn _ _ hp.2.1.mem v (fol_sub hv), fun a b => ⟨(h2 a b).1, fun c => (h2 a b).2 ?_⟩⟩
  rw [pIx_eq hp.1] at c ⊢
  omega
theorem met_pt {m : Mm} {B : Bk} (h : Sh m B) (hn : Nn B) {roots : List Int} (hr : ∀ r ∈ roots, Tm B r ∧ 0 ≤ r) : ∀ w ∈ met B roots, (∃ x, Pt B w x) ∧ 0 ≤ w := by
  refine bfs_in (P := fun w => (∃ x, Pt B w x) ∧ 0 ≤ w) (fun w hw v hv hp => ?_) _ _ _ (fun w hw => ?_)
  · obtain ⟨h1, h2, _⟩ := h.fol hn hw.1 hw.2 hv
    exact ⟨tm_ptr h1 hp, h2⟩
  · rcases fold_mem.1 hw with h' | ⟨h1, h2⟩
    · simp at h'
    · exact ⟨tm_ptr (hr w h1).1 h2, (hr w h1).2⟩
theorem met_nodup (B : Bk) (roots : List Int) : (met B roots).Nodup := bfs_nodup _ _ _ (fold_nodup List.nodup_nil)
theorem met_rc (B : Bk) (roots : List Int) : ∀ w ∈ met B roots, Rc B roots w := by
  refine bfs_in (P := Rc B roots) (fun w hw v hv hp => .step hw hv hp) _ _ _ (fun w hw => ?_)
  rcases fold_mem.1 hw with h' | ⟨h1, h2⟩
  · simp at h'
  · exact .root h1 h2
theorem Sh.len {m : Mm} {B : Bk} (h : Sh m B) {l : List Int} (hd : l.Nodup) (hp : ∀ w ∈ l, (∃ x, Pt B w x) ∧ 0 ≤ w) : l.length ≤ m.y.length + m.o.length := by
  have := pts_len h.pos hd (fun w hw => (hp w hw).2) (fun w hw => (hp w hw).1)
  rwa [h.y.1, h.o.1] at this
theorem rc_met {m : Mm} {B : Bk} (h : Sh m B) (hn : Nn B) (ht : m.y.length + m.o.length ≤ 5000) {roots : List Int} (hr : ∀ r ∈ roots, Tm B r ∧ 0 ≤ r) {w : Int} (hw : Rc B roots w) : w ∈ met B roots := by
  have hpt : ∀ w, Rc B roots w → (∃ x, Pt B w x) ∧ 0 ≤ w := by
    intro w hw
    induction hw with
    | root h1 h2 => exact ⟨tm_ptr (hr _ h1).1 h2, (hr _ h1).2⟩
    | step h1 h2 h3 ih =>
      obtain ⟨a, b, _⟩ := h.fol hn ih.1 ih.2 h2
      exact ⟨tm_ptr a h3, b⟩
  have hcl := bfs_closed (f := folB B) (P := fun w => (∃ x, Pt B w x) ∧ 0 ≤ w) (N := 5001) (fun w hw v hv hp => by
      obtain ⟨a, b, _⟩ := h.fol hn hw.1 hw.2 hv
      exact ⟨tm_ptr a hp, b⟩)
    (fun l hd hp => by have := h.len hd hp; omega) 5001 0 (roots.foldl metW []) (by omega) (fold_nodup List.nodup_nil)
    (fun w hw => by
      rcases fold_mem.1 hw with h' | ⟨h1, h2⟩
      · simp at h'
      · exact ⟨tm_ptr (hr w h1).1 h2, (hr w h1).2⟩)
    (fun j w hj => by omega)
  induction hw with
  | root h1 h2 =>
    obtain ⟨t, ht⟩ := bfs_pre (f := folB B) 5001 0 (roots.foldl metW [])
    show _ ∈ bfs (folB B) 5001 0 (roots.foldl metW [])
    rw [ht]
    exact List.mem_append_left _ (fold_mem.2 (.inr ⟨h1, h2⟩))
  | step h1 h2 h3 ih => exact hcl _ ih _ h2 h3
/-- a copying that is done -/
structure Done (m : Mm) (B : Bk) (full : Bool) (roots : List Int) (S : Bk) (D I : List Int) : Prop where
  sh : Sh m B
  nn : Nn B
  tot : m.y.length + m.o.length ≤ 5000
  rt : ∀ r ∈ roots, Tm B r ∧ 0 ≤ r
  inv : Inv B m.at_ full (if full then [] else B.o) roots S D I D.length 0
  st : ∀ r ∈ roots, mov full r = true → r ∈ D
def Cl (B : Bk) (full : Bool) (D : List Int) (w : Int) : Prop := (∃ x, Pt B w x) ∧ 0 ≤ w ∧ (mov full w = true → w ∈ D)
variable {m : Mm} {B : Bk} {full : Bool} {roots : List Int} {S : Bk} {D I : List Int}
theorem Done.cl_root (h : Done m B full roots S D I) {r : Int} (hr : r ∈ roots) (hp : pOk r = true) : Cl B full D r := ⟨tm_ptr (h.rt r hr).1 hp, (h.rt r hr).2, h.st r hr⟩
theorem mov_old {w : Int} (hp : pOk w = true) (hm : mov full w = false) : full = false ∧ pOld w = true := by
  unfold mov at hm
  cases full <;> cases ho : pOld w <;> simp [hp, ho] at hm ⊢
theorem Done.cl_fol (h : Done m B full roots S D I) {w v : Int} (hw : Cl B full D w) (hv : v ∈ folB B w) (hp : pOk v = true) : Cl B full D v := by
  obtain ⟨h1, h2, h3⟩ := h.sh.fol h.nn hw.1 hw.2.1 hv
  refine ⟨tm_ptr h1 hp, h2, fun hm => ?_⟩
  have hpw := ob_pt h.sh.pos hw.1
  by_cases hmw : mov full w = true
  · obtain ⟨j, hj⟩ := List.getElem?_of_mem (hw.2.2 hmw)
    have hjl := (List.getElem?_eq_some_iff.1 hj).1
    obtain ⟨q, hq⟩ := List.getElem?_of_mem hv
    unfold folB fol at hq
    rw [List.getElem?_drop] at hq
    exact h.inv.set j w hj _ v (.inl hjl) (Nat.le_add_right _ _) hq hm
  · obtain ⟨rfl, ho⟩ := mov_old hpw.1 (by simpa using hmw)
    unfold mov at hm
    have hov : pOld v = false := by simpa [hp] using hm
    have := (h3 hp hov).1
    rw [ho] at this
    exact Bool.noConfusion this
theorem Done.met_cl (h : Done m B full roots S D I) : ∀ w ∈ met B roots, Cl B full D w := by
  refine bfs_in (P := Cl B full D) (fun w hw v hv hp => h.cl_fol hw hv hp) _ _ _ (fun w hw => ?_)
  rcases fold_mem.1 hw with h' | ⟨h1, h2⟩
  · simp at h'
  · exact h.cl_root h1 h2
theorem Done.base_flat (h : Done m B full roots S D I) (hf : full = false) : B.o.flatten.length = m.o.length := by rw [h.sh.o.1]
/-- what has become of a pointer -/
theorem Done.copy (h : Done m B full roots S D I) {w : Int} (hw : w ∈ D) : lk D I w ∈ I ∧ pOk (lk D I w) = true ∧ 0 ≤ lk D I w ∧ pOld (lk D I w) = age full m.at_ w ∧ Pt S (lk D I w) (ob S (lk D I w)) ∧ (ob S (lk D I w)).length = (ob B w).length ∧ ((ob S (lk D I w)).headD 0 % 4 = 0 ↔ (ob B w).headD 0 % 4 = 0) ∧ ∀ q v, (ob B w)[q]? = some v → (ob S (lk D I w))[q]? = some (if frm (ob B w) ≤ q then lk D I v else v) := by
  obtain ⟨j, p, h1, h2, h3⟩ := lk_mem h.inv.len h.inv.nd hw
  have hjl := (List.getElem?_eq_some_iff.1 h1).1
  obtain ⟨x', e1, e2, e3, e4, e5, e6⟩ := h.inv.cp j w p h1 h2
  rw [h3]
  have hx := e1.ob h.inv.pos
  rw [hx]
  refine ⟨List.mem_of_getElem? h2, e1.1, e2, e3, e1, e4, e5, fun q v hv => ?_⟩
  rw [e6 q v hv]
  congr 1
  by_cases hf : frm (ob B w) ≤ q
  · rw [if_pos ⟨.inl hjl, hf⟩, if_pos hf]
  · rw [if_neg (fun h => hf h.2), if_neg hf]
theorem Done.pOk_lk (h : Done m B full roots S D I) (v : Int) : pOk (lk D I v) = pOk v := by
  by_cases hv : v ∈ D
  · obtain ⟨x, hx⟩ := (h.inv.src v hv).1
    rw [(h.copy hv).2.1, hx.1]
  · rw [lk_not hv]
theorem Done.inj (h : Done m B full roots S D I) {u v : Int} (hu : Cl B full D u) (hv : Cl B full D v) (e : lk D I u = lk D I v) : u = v := by
  have key : ∀ a b, a ∈ D → b ∉ D → Cl B full D b → lk D I a = lk D I b → False := by
    intro a b ha hb hc e
    have hpb := ob_pt h.sh.pos hc.1
    have hm : mov full b = false := by
      cases hmb : mov full b
      · rfl
      · exact absurd (hc.2.2 hmb) hb
    obtain ⟨rfl, ho⟩ := mov_old hpb.1 hm
    rw [lk_not hb] at e
    have h1 := h.copy ha
    rw [e] at h1
    have h2 := h.inv.new b h1.1 ho
    have h3 := hpb.2.1
    rw [ho] at h3
    have h4 := h3.bound
    have h5 := (h.sh.pos.2) _ h3.mem
    simp at h2
    simp [Bk.s] at h4
    omega
  by_cases h1 : u ∈ D <;> by_cases h2 : v ∈ D
  · obtain ⟨j, p, a1, a2, a3⟩ := lk_mem h.inv.len h.inv.nd h1
    obtain ⟨k, q, b1, b2, b3⟩ := lk_mem h.inv.len h.inv.nd h2
    rw [a3, b3] at e
    subst e
    have : j = k := (List.getElem?_inj (List.getElem?_eq_some_iff.1 a2).1 h.inv.ndI).1 (a2.trans b2.symm)
    subst this
    exact Option.some.inj (a1.symm.trans b1)
  · exact (key u v h1 h2 hv e).elim
  · exact (key v u h2 h1 hu e.symm).elim
  · rwa [lk_not h1, lk_not h2] at e
/-- an object that is not moved stays -/
theorem Done.stay (h : Done m B full roots S D I) {w : Int} (hw : Cl B full D w) (hn : w ∉ D) : full = false ∧ pOld w = true ∧ lk D I w = w ∧ ob S w = ob B w ∧ Pt S w (ob B w) := by
  have hpw := ob_pt h.sh.pos hw.1
  have hm : mov full w = false := by
    cases hmb : mov full w
    · rfl
    · exact absurd (hw.2.2 hmb) hn
  obtain ⟨rfl, ho⟩ := mov_old hpw.1 hm
  have hS : Pt S w (ob B w) := by
    refine ⟨hpw.1, ?_, hpw.2.2⟩
    have := hpw.2.1
    rw [ho] at this ⊢
    obtain ⟨r, hr⟩ := h.inv.pre
    simp at hr
    show At S.o _ _
    rw [hr]
    exact At.left this
  exact ⟨rfl, ho, lk_not hn, hS.ob h.inv.pos, hS⟩
theorem Done.obj (h : Done m B full roots S D I) {w : Int} (hw : Cl B full D w) : Pt S (lk D I w) (ob S (lk D I w)) ∧ 0 ≤ lk D I w ∧ (ob S (lk D I w)).length = (ob B w).length ∧ ((ob S (lk D I w)).headD 0 % 4 = 0 ↔ (ob B w).headD 0 % 4 = 0) ∧ ∀ q v, (ob B w)[q]? = some v → (ob S (lk D I w))[q]? = some (if frm (ob B w) ≤ q then lk D I v else v) := by
  by_cases hd : w ∈ D
  · obtain ⟨_, _, a, _, b, c, d, e⟩ := h.copy hd
    exact ⟨b, a, c, d, e⟩
  · obtain ⟨rfl, ho, e1, e2, e3⟩ := h.stay hw hd
    rw [e1, e2]
    refine ⟨e3, hw.2.1, rfl, Iff.rfl, fun q v hv => ?_⟩
    rw [hv]
    congr 1
    split
    · rename_i hq
      have hvf : v ∈ folB B w := by
        unfold folB fol
        refine List.mem_of_getElem? (i := q - frm (ob B w)) ?_
        rw [List.getElem?_drop, Nat.add_sub_cancel' hq]
        exact hv
      by_cases hvd : v ∈ D
      · have hc := (h.inv.src v hvd)
        obtain ⟨x, hx⟩ := hc.1
        have hm := hc.2.1
        unfold mov at hm
        have hov : pOld v = false := by simpa [hx.1] using hm
        have := ((h.sh.fol h.nn hw.1 hw.2.1 hvf).2.2 hx.1 hov).1
        rw [ho] at this
        exact Bool.noConfusion this
      · rw [lk_not hvd]
    · rfl
theorem Done.frm (h : Done m B full roots S D I) {w : Int} (hw : Cl B full D w) : cl.frm (ob S (lk D I w)) = cl.frm (ob B w) := by
  obtain ⟨h1, _, h2, h3, h4⟩ := h.obj hw
  have p1 : 0 < (ob B w).length := (h.sh.pos.s _) _ (ob_pt h.sh.pos hw.1).2.1.mem
  have p2 : 0 < (ob S (lk D I w)).length := by omega
  refine frm_head p2 p1 h3 (fun h0 => ?_) h2
  have h5 := h4 0 _ (headD_get p1)
  have h6 := frm_pos (h3.1 h0) p1
  rw [if_neg (by omega), headD_get p2] at h5
  exact Option.some.inj h5
theorem Done.fol_lk (h : Done m B full roots S D I) {w : Int} (hw : Cl B full D w) : folB S (lk D I w) = (folB B w).map (lk D I) := by
  obtain ⟨h1, _, h2, h3, h4⟩ := h.obj hw
  unfold folB fol
  rw [h.frm hw]
  refine List.ext_getElem? fun q => ?_
  rw [List.getElem?_map, List.getElem?_drop, List.getElem?_drop]
  cases hv : (ob B w)[cl.frm (ob B w) + q]? with
  | none =>
    have := List.getElem?_eq_none_iff.1 hv
    rw [List.getElem?_eq_none_iff.2 (by omega)]
    rfl
  | some v =>
    rw [h4 _ v hv, if_pos (by omega)]
    rfl
/-- the objects are met in the same order -/
theorem Done.met (h : Done m B full roots S D I) : cl.met S (roots.map (lk D I)) = (cl.met B roots).map (lk D I) := by
  unfold cl.met
  have h0 := fold_map (g := lk D I) (P := Cl B full D) (fun u v hu hv e => h.inj hu hv e) (ws := roots) (l := []) (fun v hv => by simp at hv) (fun v hv hp => h.cl_root hv hp) (fun v _ => h.pOk_lk v)
  rw [List.map_nil] at h0
  rw [h0]
  refine bfs_map (P := Cl B full D) (fun u v hu hv e => h.inj hu hv e) (fun w hw v hv hp => h.cl_fol hw hv hp) (fun w hw v hv => h.pOk_lk v) (fun w hw => h.fol_lk hw) _ _ _ (fun w hw => ?_)
  rcases fold_mem.1 hw with h' | ⟨h1, h2⟩
  · simp at h'
  · exact h.cl_root h1 h2
theorem Done.tm (h : Done m B full roots S D I) {v : Int} (hv : Tm B v) (hc : pOk v = true → Cl B full D v) : Tm S (lk D I v) := by
  by_cases hp : pOk v = true
  · exact .inr (.inr (.inr ⟨_, (h.obj (hc hp)).1⟩))
  · have hp : pOk v = false := by simpa using hp
    have hn : v ∉ D := fun hd => by
      obtain ⟨x, hx⟩ := (h.inv.src v hd).1
      rw [hx.1] at hp
      exact Bool.noConfusion hp
    rw [lk_not hn]
    exact tm_not hv hp
theorem Done.roots2 (h : Done m B full roots S D I) : ∀ r ∈ roots, Tm S (lk D I r) := fun r hr => h.tm (h.rt r hr).1 (fun hp => h.cl_root hr hp)
/-- all that is met has been copied, and nothing else -/
theorem Done.mem (h : Done m B full roots S D I) (w : Int) : w ∈ D ↔ w ∈ (cl.met B roots).filter (mov full) := by
  rw [List.mem_filter]
  constructor
  · intro hw
    obtain ⟨_, h1, _, h2⟩ := h.inv.src w hw
    exact ⟨rc_met h.sh h.nn h.tot h.rt h2, h1⟩
  · rintro ⟨h1, h2⟩
    exact (h.met_cl w h1).2.2 h2
theorem sum_same {f : Int → Nat} : ∀ {a b : List Int}, a.Nodup → b.Nodup → (∀ x, x ∈ a ↔ x ∈ b) → (a.map f).sum = (b.map f).sum := by
  intro a
  induction a with
  | nil =>
    intro b _ _ h
    cases b with
    | nil => rfl
    | cons y b => exact absurd ((h y).2 List.mem_cons_self) (by simp)
  | cons x a ih =>
    intro b ha hb h
    have hx := (h x).1 List.mem_cons_self
    have hp := (List.perm_cons_erase hx).map f
    rw [hp.sum_nat, List.map_cons, List.map_cons, List.sum_cons, List.sum_cons]
    congr 1
    refine ih (List.nodup_cons.1 ha).2 (hb.erase x) (fun y => ?_)
    rw [List.Nodup.mem_erase_iff hb, ← h y, List.mem_cons]
    constructor
    · intro hy
      exact ⟨fun e => (List.nodup_cons.1 ha).1 (e ▸ hy), .inr hy⟩
    · rintro ⟨h1, h2 | h2⟩
      · exact absurd h2 h1
      · exact h2
theorem sum_filter {f : Int → Nat} {p : Int → Bool} : ∀ (l : List Int), ((l.filter p).map f).sum = (l.map (fun w => if p w = true then f w else 0)).sum := by
  intro l
  induction l with
  | nil => rfl
  | cons x l ih =>
    rw [List.filter_cons]
    split
    · rename_i h
      rw [List.map_cons, List.map_cons, List.sum_cons, List.sum_cons, ih, if_pos h]
    · rename_i h
      rw [List.map_cons, List.sum_cons, ih, if_neg h, Nat.zero_add]
theorem Done.sum (h : Done m B full roots S D I) (f : Int → Nat) : (D.map f).sum = ((cl.met B roots).map (fun w => if mov full w = true then f w else 0)).sum := by
  rw [← sum_filter]
  exact sum_same h.inv.nd ((met_nodup B roots).filter _) h.mem
/-- sizes of what is met -/
def szBelow (m : Mm) (B : Bk) (l : List Int) : Nat := (l.map (fun w => if pOld w = false ∧ pIx w < m.at_ then (ob B w).length else 0)).sum
def szAbove (m : Mm) (B : Bk) (l : List Int) : Nat := (l.map (fun w => if pOld w = false ∧ ¬ pIx w < m.at_ then (ob B w).length else 0)).sum
def szOld (B : Bk) (l : List Int) : Nat := (l.map (fun w => if pOld w = true then (ob B w).length else 0)).sum
theorem sum_congr {f g : Int → Nat} : ∀ {l : List Int}, (∀ w ∈ l, f w = g w) → (l.map f).sum = (l.map g).sum := by
  intro l h
  rw [List.map_congr_left h]
theorem sum_add {f g : Int → Nat} : ∀ (l : List Int), (l.map f).sum + (l.map g).sum = (l.map (fun w => f w + g w)).sum := by
  intro l
  induction l with
  | nil => rfl
  | cons x l ih =>
    simp only [List.map_cons, List.sum_cons]
    omega
theorem Done.minorY (h : Done m B false roots S D I) : S.y.flatten.length = szAbove m B (cl.met B roots) := by
  rw [h.inv.sy, h.sum]
  refine sum_congr (fun w hw => ?_)
  obtain ⟨x, hx⟩ := (h.met_cl w hw).1
  unfold mov age
  cases ho : pOld w <;> by_cases hm : pIx w < m.at_ <;> simp [hx.1, ho, hm]
theorem Done.minorO (h : Done m B false roots S D I) : S.o.flatten.length = m.o.length + szBelow m B (cl.met B roots) := by
  rw [h.inv.so, h.sum]
  simp only [Bool.false_eq_true, if_false]
  rw [h.base_flat rfl]
  congr 1
  refine sum_congr (fun w hw => ?_)
  obtain ⟨x, hx⟩ := (h.met_cl w hw).1
  unfold mov age
  cases ho : pOld w <;> by_cases hm : pIx w < m.at_ <;> simp [hx.1, ho, hm]
theorem Done.fullY (h : Done m B true roots S D I) : S.y.flatten.length = 0 := by
  rw [h.inv.sy]
  have : (D.map (fun d => if age true m.at_ d = true then 0 else (ob B d).length)) = D.map (fun _ => 0) := by
    refine List.map_congr_left (fun d _ => ?_)
    unfold age
    simp
  rw [this]
  clear this h
  induction D with
  | nil => rfl
  | cons d D ih => rw [List.map_cons, List.sum_cons, ih]
theorem Done.fullO (h : Done m B true roots S D I) : S.o.flatten.length = szBelow m B (cl.met B roots) + szAbove m B (cl.met B roots) + szOld B (cl.met B roots) := by
  rw [h.inv.so, h.sum]
  unfold szBelow szAbove szOld
  rw [sum_add, sum_add]
  simp only [if_true, List.flatten_nil, List.length_nil, Nat.zero_add]
  refine sum_congr (fun w hw => ?_)
  obtain ⟨x, hx⟩ := (h.met_cl w hw).1
  unfold mov age
  cases ho : pOld w <;> by_cases hm : pIx w < m.at_ <;> simp [hx.1, ho, hm]
theorem okO_congr {x y : List Int} (hl : x.length = y.length) (h0 : 0 < x.length) (hh : x.headD 0 % 4 = 0 ↔ y.headD 0 % 4 = 0) (hg : ∀ q v, x[q]? = some v → q < frm x → y[q]? = some v) : okO y = okO x := by
  unfold okO knd wds
  by_cases hx : x.headD 0 % 4 = 0
  · have hy := hh.1 hx
    have hfp := frm_pos hx h0
    have he : y.headD 0 = x.headD 0 := by
      have := hg 0 _ (headD_get h0) (by omega)
      rw [headD_get (by omega)] at this
      exact Option.some.inj this
    rw [if_pos hx, if_pos hy, if_pos hx, if_pos hy, he]
    cases x with
    | nil => simp at h0
    | cons a r =>
      cases y with
      | nil => simp at hl
      | cons b s =>
        simp only [List.headD_cons, List.tail_cons] at *
        subst he
        have hl' : r.length = s.length := by simpa using hl
        have hgd : ∀ q, q + 1 < frm (b :: r) → s.getD q 0 = r.getD q 0 := by
          intro q hq
          by_cases hqr : q < r.length
          · have := hg (q + 1) (r[q]) (by rw [List.getElem?_cons_succ, List.getElem?_eq_getElem hqr]) hq
            rw [List.getElem?_cons_succ] at this
            rw [List.getD_eq_getElem?_getD, List.getD_eq_getElem?_getD, this, List.getElem?_eq_getElem hqr]
          · rw [List.getD_eq_getElem?_getD, List.getD_eq_getElem?_getD, List.getElem?_eq_none (by omega), List.getElem?_eq_none (by omega)]
        unfold fmd
        by_cases k0 : hoK b = 0
        · rw [if_pos k0, if_pos k0]
        rw [if_neg k0, if_neg k0]
        by_cases k1 : hoK b = 1
        · rw [if_pos k1, if_pos k1, hl']
        rw [if_neg k1, if_neg k1]
        by_cases k2 : hoK b = 2
        · have hf : frm (b :: r) = 5 := by
            unfold frm
            rw [if_neg (by simpa using hx), if_neg (by simpa using k1), if_pos (by simpa using k2)]
          rw [if_pos k2, if_pos k2, hl', hgd 0 (by omega), hgd 1 (by omega), hgd 2 (by omega), hgd 3 (by omega)]
        rw [if_neg k2, if_neg k2]
        have hf : frm (b :: r) = r.length + 1 := by
          unfold frm
          rw [if_neg (by simpa using hx), if_neg (by simpa using k1), if_neg (by simpa using k2)]
          rfl
        have hrs : s = r := by
          refine List.ext_getElem (by omega) (fun q h1 h2 => ?_)
          have := hgd q (by omega)
          rw [List.getD_eq_getElem?_getD, List.getD_eq_getElem?_getD, List.getElem?_eq_getElem h1, List.getElem?_eq_getElem h2] at this
          exact this
        rw [hrs]
  · have hy := fun h => hx (hh.2 h)
    rw [if_neg hx, if_neg hy]
    rfl
/-- the new memory has shape -/
theorem Done.sh2 (h : Done m B full roots S D I) (hy : S.y.flatten.length ≤ 2147483647) (ho : S.o.flatten.length ≤ 2147483647) : Sh ⟨S.y.flatten, S.o.flatten, if full = true then 0 else (S.y.flatten.length : Int)⟩ S := by
  have hfull : full = true → S.y.flatten.length = 0 := fun e => by subst e; exact h.fullY
  refine ⟨⟨rfl, h.inv.obj false⟩, ⟨rfl, h.inv.obj true⟩, hy, ho, ?_, ?_, fun hlt => ?_, fun b i x hx => ?_⟩
  · show (0 : Int) ≤ if full = true then 0 else _
    split <;> omega
  · show (if full = true then (0 : Int) else _) ≤ (S.y.flatten.length : Int)
    split <;> omega
  · have hlt : (if full = true then (0 : Int) else (S.y.flatten.length : Int)) < (S.y.flatten.length : Int) := hlt
    split at hlt
    · rename_i hf
      have := hfull hf
      omega
    · omega
  · have key : ∀ w, Cl B full D w → At (S.s b) i (ob S (lk D I w)) → (x = ob S (lk D I w)) → okO x = true ∧ ∀ v ∈ fol x, Tm S v := by
      intro w hw hat hxe
      subst hxe
      obtain ⟨h1, h2, h3, h4, h5⟩ := h.obj hw
      have hpw := ob_pt h.sh.pos hw.1
      have p1 : 0 < (ob B w).length := (h.sh.pos.s _) _ hpw.2.1.mem
      refine ⟨?_, fun v hv => ?_⟩
      · rw [okO_congr h3.symm p1 h4.symm (fun q v hv hq => by rw [h5 q v hv, if_neg (by omega)])]
        exact (h.sh.ok _ _ _ hpw.2.1).1
      · have hv' : v ∈ folB S (lk D I w) := hv
        rw [h.fol_lk hw] at hv'
        obtain ⟨u, hu, rfl⟩ := List.mem_map.1 hv'
        exact h.tm (h.sh.fol h.nn hw.1 hw.2.1 hu).1 (fun hp => h.cl_fol hw hu hp)
    rcases h.inv.all b i x hx with ⟨rfl, hb⟩ | ⟨p, hp, rfl, rfl⟩
    · cases full
      · have hb : At B.o i x := by simpa using hb
        obtain ⟨h1, h2⟩ := h.sh.ok true i x hb
        refine ⟨h1, fun v hv => ⟨?_, fun hpv hov => ?_⟩⟩
        · by_cases hpv : pOk v = true
          · have hov : pOld v = true := by
              cases hov : pOld v
              · exact Bool.noConfusion ((h2 v hv).2 hpv hov).1
              · rfl
            obtain ⟨y, hy⟩ := tm_ptr (h2 v hv).1 hpv
            refine .inr (.inr (.inr ⟨y, hy.1, ?_, hy.2.2⟩))
            have h3 := hy.2.1
            rw [hov] at h3 ⊢
            obtain ⟨r, hr⟩ := h.inv.pre
            simp at hr
            show At S.o _ _
            rw [hr]
            exact At.left h3
          · exact tm_not (h2 v hv).1 (by simpa using hpv)
        · exact Bool.noConfusion ((h2 v hv).2 hpv hov).1
      · simp at hb
        exact hb.elim
    · obtain ⟨j, hj⟩ := List.getElem?_of_mem hp
      have hjl := (List.getElem?_eq_some_iff.1 hj).1
      have hl := h.inv.len
      have hjd : D[j]? = some (D[j]'(by omega)) := List.getElem?_eq_getElem _
      generalize D[j]'(by omega) = d at hjd
      have hd := List.mem_of_getElem? hjd
      have hlk : lk D I d = p := lk_get h.inv.nd hjd hj
      have hcl : Cl B full D d := ⟨(h.inv.src d hd).1, (h.inv.src d hd).2.2.1, fun _ => hd⟩
      obtain ⟨_, c1, c2, c3, c4, c5, c6, c7⟩ := h.copy hd
      rw [hlk] at c1 c2 c3 c4 c5 c6 c7
      have hxe : x = ob S p := At.uniq (h.inv.pos.s _) hx c4.2.1
      obtain ⟨k1, k2⟩ := key d hcl (by rw [hlk]; exact c4.2.1) (by rw [hlk]; exact hxe)
      refine ⟨k1, fun v hv => ⟨k2 v hv, fun hpv hov => ?_⟩⟩
      have hv' : v ∈ folB S (lk D I d) := by rw [hlk]; unfold folB; rw [← hxe]; exact hv
      rw [h.fol_lk hcl] at hv'
      obtain ⟨u, hu, rfl⟩ := List.mem_map.1 hv'
      rw [h.pOk_lk] at hpv
      have hcu := h.cl_fol hcl hu hpv
      have hud : u ∈ D := by
        by_cases hud : u ∈ D
        · exact hud
        · obtain ⟨_, e2, e3, _⟩ := h.stay hcu hud
          rw [e3, e2] at hov
          exact Bool.noConfusion hov
      obtain ⟨_, d1, d2, d3, d4, _⟩ := h.copy hud
      rw [d3] at hov
      have hb := d4.2.1.bound
      rw [d3, hov] at hb
      have hq := (h.inv.pos.s _) _ d4.2.1.mem
      have hfu : full = false := by
        cases full
        · rfl
        · simp [age] at hov
      subst hfu
      refine ⟨?_, fun _ => ?_⟩
      · rw [c3]
        cases ha : age false m.at_ d
        · rfl
        · have hmd := (h.inv.src d hd).2.1
          have hod : pOld d = false := by
            cases ho : pOld d
            · rfl
            · simp [mov, ho] at hmd
          have hou : pOld u = false := by
            cases ho : pOld u
            · rfl
            · simp [age, ho] at hov
          have h1 : pIx d < m.at_ := by simpa [age, hod] using ha
          have h2 := ((h.sh.fol h.nn hcl.1 hcl.2.1 hu).2.2 hpv hou).2 h1
          simp [age, hou] at hov
          omega
      · show pIx (lk D I u) < _
        have hb : (pIx (lk D I u)).toNat + (ob S (lk D I u)).length ≤ S.y.flatten.length := hb
        have h3 : (pIx (lk D I u)).toNat < S.y.flatten.length := by omega
        show pIx (lk D I u) < (S.y.flatten.length : Int)
        rw [pIx_eq d1] at h3 ⊢
        omega
end Go.Proofs.YtpnlnbolhkcnjaaGreat.cl
