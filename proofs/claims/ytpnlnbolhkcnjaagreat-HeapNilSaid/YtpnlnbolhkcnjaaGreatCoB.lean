
/- Memory as a graph of objects: pointers, what is followed, the order in which objects are met, in plain Lean. Conditions: as said. -/
import Derived.Test.YtpnlnbolhkcnjaaGreatCoA
namespace Go.Proofs.YtpnlnbolhkcnjaaGreat.cl
open words
set_option linter.unusedVariables false
set_option linter.unusedSimpArgs false

structure Mm where
  y : List Int
  o : List Int
  at_ : Int
structure Bk where
  y : List (List Int)
  o : List (List Int)
def Mm.s (m : Mm) (b : Bool) : List Int := if b then m.o else m.y
def Bk.s (B : Bk) (b : Bool) : List (List Int) := if b then B.o else B.y
def Bk.pos (B : Bk) : Prop := Pos B.y ∧ Pos B.o
theorem Bk.pos.s {B : Bk} (h : B.pos) (b : Bool) : Pos (B.s b) := by cases b; exact h.1; exact h.2
/-- the word w points to the object x -/
def Pt (B : Bk) (w : Int) (x : List Int) : Prop := pOk w = true ∧ At (B.s (pOld w)) (pIx w).toNat x ∧ (x.headD 0 % 4 = 0 ↔ w % 4 = 2)
def Tm (B : Bk) (w : Int) : Prop := soOk w = true ∨ aoOk w = true ∨ w = 11 ∨ ∃ x, Pt B w x
/-- how many words of an object, its header among them, are not followed -/
def frm (x : List Int) : Nat := if x.headD 0 % 4 ≠ 0 then 0 else if hoK (x.headD 0) = 1 then 1 else if hoK (x.headD 0) = 2 then 5 else x.length
def fol (x : List Int) : List Int := x.drop (frm x)
theorem Pt.uniq {B : Bk} (hB : B.pos) {w : Int} {x y : List Int} (h1 : Pt B w x) (h2 : Pt B w y) : x = y := At.uniq (hB.s _) h1.2.1 h2.2.1
/-- the object that begins at i -/
def atF : List (List Int) → Nat → List Int
  | [], _ => []
  | o :: r, i => if i = 0 then o else if i < o.length then [] else atF r (i - o.length)
theorem At.f : ∀ {a : List (List Int)}, Pos a → ∀ {i : Nat} {x : List Int}, At a i x → atF a i = x := by
  intro a
  induction a with
  | nil => intro _ i x h; exact h.elim
  | cons o r ih =>
    intro hp i x h
    have := hp.head
    unfold atF
    rcases h with ⟨rfl, rfl⟩ | ⟨h1, h⟩
    · rw [if_pos rfl]
    · rw [if_neg (by omega), if_neg (by omega), ih hp.tail h]
/-- the object of a pointer -/
def ob (B : Bk) (w : Int) : List Int := atF (B.s (pOld w)) (pIx w).toNat
theorem Pt.ob {B : Bk} (hB : B.pos) {w : Int} {x : List Int} (h : Pt B w x) : cl.ob B w = x := At.f (hB.s _) h.2.1
/-- pointers to the same place are equal -/
theorem pOk_iff (w : Int) : pOk w = true ↔ (w % 4 = 1 ∨ w % 4 = 2) ∧ w / 8 < 2147483648 := by simp [pOk]
theorem pIx_eq {w : Int} (h : pOk w = true) : pIx w = w / 8 := by unfold pIx; rw [if_pos h]
theorem pOld_iff {w : Int} (h : pOk w = true) : pOld w = true ↔ w / 4 % 2 = 1 := by unfold pOld; rw [h, Bool.true_and, decide_eq_true_eq]
theorem ptr_eq {v w : Int} (hv : pOk v = true) (hw : pOk w = true) (v0 : 0 ≤ v) (w0 : 0 ≤ w) (ho : pOld v = pOld w) (hi : (pIx v).toNat = (pIx w).toNat) (ht : v % 4 = 2 ↔ w % 4 = 2) : v = w := by
  have h1 := (pOk_iff v).1 hv
  have h2 := (pOk_iff w).1 hw
  rw [pIx_eq hv, pIx_eq hw] at hi
  have h3 := pOld_iff hv
  have h4 := pOld_iff hw
  rw [ho, h4] at h3
  omega
theorem Pt.inj {B : Bk} (hB : B.pos) {v w : Int} {x y : List Int} (h1 : Pt B v x) (h2 : Pt B w y) (v0 : 0 ≤ v) (w0 : 0 ≤ w) (ho : pOld v = pOld w) (hi : (pIx v).toNat = (pIx w).toNat) : v = w := by
  obtain ⟨a1, b1, c1⟩ := h1
  obtain ⟨a2, b2, c2⟩ := h2
  rw [ho, hi] at b1
  obtain rfl := At.uniq (hB.s _) b1 b2
  exact ptr_eq a1 a2 v0 w0 ho hi (by rw [← c1, ← c2])
/-- the words of an object other than the terms in it are as they must be: this depends on no followed word -/
def wi (w lo hi : Int) : Bool := soOk w && decide (lo ≤ soN w ∧ soN w ≤ hi)
def usedOk (w n : Int) : Bool := decide (n % 64 = 0) || decide (w * 2 ^ (n % 64).toNat % 18446744073709551616 = 0)
def fmd (k : Int) (l : List Int) : Bool :=
  if k = 0 then true
  else if k = 1 then decide (l.length ≤ 255)
  else if k = 2 then decide (4 ≤ l.length ∧ l.length ≤ 204) && (aoOk (l.getD 0 0) && (wi (l.getD 1 0) 1 2147483647 && (wi (l.getD 2 0) 0 999 && wi (l.getD 3 0) 0 16)))
  else if k = 6 then decide (l.length = 1) && !smallOk (IntKind.i64.wrap (l.getD 0 0))
  else if k = 7 then !decide (l.length = 0) && (wi (l.getD 0 0) 0 512 && (decide ((l.length : Int) - 1 = (soN (l.getD 0 0) + 63) / 64) && usedOk (l.getD (l.length - 1) 0) (soN (l.getD 0 0))))
  else decide (l.length = 3) &&
    (if k = 3 then aoOk (l.getD 0 0) && (aoOk (l.getD 1 0) && wi (l.getD 2 0) 0 16)
     else if k = 4 ∨ k = 5 then aoOk (l.getD 0 0) && (wi (l.getD 1 0) 1 2147483647 && wi (l.getD 2 0) 1 2147483647)
     else wi (l.getD 0 0) 1 2147483647 && (wi (l.getD 1 0) 0 16384 && wi (l.getD 2 0) 513 16384))
def knd (x : List Int) : Int := if x.headD 0 % 4 = 0 then hoK (x.headD 0) else 0
def wds (x : List Int) : List Int := if x.headD 0 % 4 = 0 then x.tail else x
def okO (x : List Int) : Bool := fmd (knd x) (wds x)
/-- a memory has shape -/
structure Sh (m : Mm) (B : Bk) : Prop where
  y : Objs m.y B.y
  o : Objs m.o B.o
  ly : m.y.length ≤ 2147483647
  lo : m.o.length ≤ 2147483647
  m0 : 0 ≤ m.at_
  m1 : m.at_ ≤ m.y.length
  m2 : m.at_ < m.y.length → ∃ x, At B.y m.at_.toNat x
  ok : ∀ b i x, At (B.s b) i x → okO x = true ∧ ∀ v ∈ fol x, Tm B v ∧ (pOk v = true → pOld v = false → b = false ∧ ((i : Int) < m.at_ → pIx v < m.at_))
theorem Sh.pos {m : Mm} {B : Bk} (h : Sh m B) : B.pos := ⟨h.y.pos, h.o.pos⟩
theorem Sh.book {m : Mm} {B B' : Bk} (h : Sh m B) (h' : Sh m B') : B = B' := by
  obtain ⟨a, b⟩ := B
  obtain ⟨a', b'⟩ := B'
  have e1 : a = a' := Objs.uniq h.y h'.y
  have e2 : b = b' := Objs.uniq h.o h'.o
  rw [e1, e2]
/-- one word met -/
def metW (l : List Int) (w : Int) : List Int := if pOk w = true ∧ w ∉ l then l ++ [w] else l
def bfs (f : Int → List Int) : Nat → Nat → List Int → List Int
  | 0, _, l => l
  | n + 1, i, l => match l[i]? with
    | none => l
    | some w => bfs f n (i + 1) ((f w).foldl metW l)
def folB (B : Bk) (w : Int) : List Int := fol (ob B w)
def met (B : Bk) (roots : List Int) : List Int := bfs (folB B) 5001 0 (roots.foldl metW [])
theorem metW_mem {l : List Int} {w v : Int} : v ∈ metW l w ↔ v ∈ l ∨ (v = w ∧ pOk w = true) := by
  unfold metW
  split
  · rename_i h
    rw [List.mem_append, List.mem_singleton]
    constructor
    · rintro (h' | rfl)
      · exact .inl h'
      · exact .inr ⟨rfl, h.1⟩
    · rintro (h' | ⟨rfl, _⟩)
      · exact .inl h'
      · exact .inr rfl
  · rename_i h
    constructor
    · exact .inl
    · rintro (h' | ⟨rfl, hp⟩)
      · exact h'
      · by_cases hm : v ∈ l
        · exact hm
        · exact absurd ⟨hp, hm⟩ h
theorem fold_mem {ws : List Int} : ∀ {l : List Int} {v : Int}, v ∈ ws.foldl metW l ↔ v ∈ l ∨ (v ∈ ws ∧ pOk v = true) := by
  induction ws with
  | nil => intro l v; simp
  | cons w r ih =>
    intro l v
    rw [List.foldl_cons, ih, metW_mem, List.mem_cons]
    constructor
    · rintro ((h | ⟨rfl, h⟩) | h)
      · exact .inl h
      · exact .inr ⟨.inl rfl, h⟩
      · exact .inr ⟨.inr h.1, h.2⟩
    · rintro (h | ⟨rfl | h, h'⟩)
      · exact .inl (.inl h)
      · exact .inl (.inr ⟨rfl, h'⟩)
      · exact .inr ⟨h, h'⟩
theorem metW_nodup {l : List Int} {w : Int} (h : l.Nodup) : (metW l w).Nodup := by
  unfold metW
  split
  · rename_i hc
    rw [List.nodup_append]
    exact ⟨h, by simp, fun a ha b hb e => by simp at hb; subst hb; subst e; exact hc.2 ha⟩
  · exact h
theorem fold_nodup {ws : List Int} : ∀ {l : List Int}, l.Nodup → (ws.foldl metW l).Nodup := by
  induction ws with
  | nil => intro l h; exact h
  | cons w r ih => intro l h; exact ih (metW_nodup h)
theorem metW_pre (l : List Int) (w : Int) : ∃ t, metW l w = l ++ t := by
  unfold metW
  split
  · exact ⟨_, rfl⟩
  · exact ⟨[], by simp⟩
theorem fold_pre {ws : List Int} : ∀ (l : List Int), ∃ t, ws.foldl metW l = l ++ t := by
  induction ws with
  | nil => intro l; exact ⟨[], by simp⟩
  | cons w r ih =>
    intro l
    obtain ⟨t, ht⟩ := metW_pre l w
    obtain ⟨s, hs⟩ := ih (metW l w)
    exact ⟨t ++ s, by rw [List.foldl_cons, hs, ht, List.append_assoc]⟩
theorem bfs_pre {f : Int → List Int} : ∀ (n i : Nat) (l : List Int), ∃ t, bfs f n i l = l ++ t := by
  intro n
  induction n with
  | zero => intro i l; exact ⟨[], by simp [bfs]⟩
  | succ n ih =>
    intro i l
    unfold bfs
    split
    · exact ⟨[], by simp⟩
    · rename_i w _
      obtain ⟨t, ht⟩ := fold_pre (ws := f w) l
      obtain ⟨s, hs⟩ := ih (i + 1) ((f w).foldl metW l)
      exact ⟨t ++ s, by rw [hs, ht, List.append_assoc]⟩
theorem bfs_nodup {f : Int → List Int} : ∀ (n i : Nat) (l : List Int), l.Nodup → (bfs f n i l).Nodup := by
  intro n
  induction n with
  | zero => intro i l h; exact h
  | succ n ih =>
    intro i l h
    unfold bfs
    split
    · exact h
    · exact ih _ _ (fold_nodup h)
/-- all that is met lies in what is closed -/
theorem bfs_in {f : Int → List Int} {P : Int → Prop} (hP : ∀ w, P w → ∀ v ∈ f w, pOk v = true → P v) : ∀ (n i : Nat) (l : List Int), (∀ w ∈ l, P w) → ∀ w ∈ bfs f n i l, P w := by
  intro n
  induction n with
  | zero => intro i l h; exact h
  | succ n ih =>
    intro i l h
    unfold bfs
    split
    · exact h
    · rename_i w hw
      refine ih _ _ (fun v hv => ?_)
      rcases fold_mem.1 hv with h' | ⟨h1, h2⟩
      · exact h v h'
      · exact hP w (h w (List.mem_of_getElem? hw)) v h1 h2
/-- and it is closed, where the fuel suffices -/
theorem bfs_closed {f : Int → List Int} {P : Int → Prop} {N : Nat} (hP : ∀ w, P w → ∀ v ∈ f w, pOk v = true → P v) (hN : ∀ l : List Int, l.Nodup → (∀ w ∈ l, P w) → l.length < N) : ∀ (n i : Nat) (l : List Int), N ≤ n + i → l.Nodup → (∀ w ∈ l, P w) → (∀ j w, j < i → l[j]? = some w → ∀ v ∈ f w, pOk v = true → v ∈ l) → ∀ w ∈ bfs f n i l, ∀ v ∈ f w, pOk v = true → v ∈ bfs f n i l := by
  intro n
  induction n with
  | zero =>
    intro i l hn hd h hc w hw v hv hp
    have hl := hN l hd h
    have hw : w ∈ l := hw
    obtain ⟨j, hj⟩ := List.getElem?_of_mem hw
    have := (List.getElem?_eq_some_iff.1 hj).1
    exact hc j w (by omega) hj v hv hp
  | succ n ih =>
    intro i l hn hd h hc
    unfold bfs
    split
    · rename_i hi
      have hi := List.getElem?_eq_none_iff.1 hi
      intro w hw v hv hp
      obtain ⟨j, hj⟩ := List.getElem?_of_mem hw
      have := (List.getElem?_eq_some_iff.1 hj).1
      exact hc j w (by omega) hj v hv hp
    · rename_i u hu
      obtain ⟨t, ht⟩ := fold_pre (ws := f u) l
      refine ih (i + 1) _ (by omega) (fold_nodup hd) (fun v hv => ?_) (fun j w hj hw v hv hp => ?_)
      · rcases fold_mem.1 hv with h' | ⟨h1, h2⟩
        · exact h v h'
        · exact hP u (h u (List.mem_of_getElem? hu)) v h1 h2
      · have hi := (List.getElem?_eq_some_iff.1 hu).1
        rw [ht, List.getElem?_append_left (by omega)] at hw
        by_cases hji : j < i
        · exact fold_mem.2 (.inl (hc j w hji hw v hv hp))
        · obtain rfl : j = i := by omega
          rw [hu] at hw
          obtain rfl := Option.some.inj hw
          exact fold_mem.2 (.inr ⟨hv, hp⟩)
/-- the same graph by other names -/
theorem metW_map {g : Int → Int} {P : Int → Prop} {l : List Int} {w : Int} (hl : ∀ v ∈ l, P v) (hw : pOk w = true → P w) (hp : pOk (g w) = pOk w) (hi : ∀ u v, P u → P v → g u = g v → u = v) : metW (l.map g) (g w) = (metW l w).map g := by
  unfold metW
  rw [hp]
  by_cases h1 : pOk w = true
  · by_cases h2 : w ∈ l
    · rw [if_neg (fun h => h.2 (List.mem_map_of_mem h2)), if_neg (fun h => h.2 h2)]
    · have hm : g w ∉ l.map g := by
        intro h
        obtain ⟨v, hv, e⟩ := List.mem_map.1 h
        obtain rfl := hi v w (hl v hv) (hw h1) e
        exact h2 hv
      rw [if_pos ⟨h1, hm⟩, if_pos ⟨h1, h2⟩, List.map_append, List.map_cons, List.map_nil]
  · rw [if_neg (fun h => h1 h.1), if_neg (fun h => h1 h.1)]
theorem fold_map {g : Int → Int} {P : Int → Prop} (hi : ∀ u v, P u → P v → g u = g v → u = v) : ∀ {ws l : List Int}, (∀ v ∈ l, P v) → (∀ v ∈ ws, pOk v = true → P v) → (∀ v ∈ ws, pOk (g v) = pOk v) → (ws.map g).foldl metW (l.map g) = (ws.foldl metW l).map g := by
  intro ws
  induction ws with
  | nil => intro l _ _ _; rfl
  | cons w r ih =>
    intro l hl hw hp
    rw [List.map_cons, List.foldl_cons, List.foldl_cons, metW_map hl (hw w List.mem_cons_self) (hp w List.mem_cons_self) hi]
    refine ih (fun v hv => ?_) (fun v hv => hw v (List.mem_cons_of_mem _ hv)) (fun v hv => hp v (List.mem_cons_of_mem _ hv))
    rcases metW_mem.1 hv with h | ⟨rfl, h⟩
    · exact hl v h
    · exact hw v List.mem_cons_self h
theorem bfs_map {f1 f2 : Int → List Int} {g : Int → Int} {P : Int → Prop} (hi : ∀ u v, P u → P v → g u = g v → u = v) (hc : ∀ w, P w → ∀ v ∈ f1 w, pOk v = true → P v) (hg : ∀ w, P w → ∀ v ∈ f1 w, pOk (g v) = pOk v) (hf : ∀ w, P w → f2 (g w) = (f1 w).map g) : ∀ (n i : Nat) (l : List Int), (∀ w ∈ l, P w) → bfs f2 n i (l.map g) = (bfs f1 n i l).map g := by
  intro n
  induction n with
  | zero => intro i l h; rfl
  | succ n ih =>
    intro i l h
    unfold bfs
    rw [List.getElem?_map]
    cases hu : l[i]? with
    | none => rfl
    | some u =>
      have hPu := h u (List.mem_of_getElem? hu)
      show bfs f2 n (i + 1) ((f2 (g u)).foldl metW (l.map g)) = _
      rw [hf u hPu, fold_map hi h (hc u hPu) (hg u hPu)]
      refine ih (i + 1) _ (fun v hv => ?_)
      rcases fold_mem.1 hv with h' | ⟨h1, h2⟩
      · exact h v h'
      · exact hc u hPu v h1 h2
/-- a list of pointers to objects, each once, is no longer than the areas are -/
theorem nodup_le : ∀ (n : Nat) {l : List Nat}, l.Nodup → (∀ x ∈ l, x < n) → l.length ≤ n := by
  intro n
  induction n with
  | zero =>
    intro l _ h
    cases l with
    | nil => exact Nat.le_refl _
    | cons a r => have := h a List.mem_cons_self; omega
  | succ n ih =>
    intro l hd h
    have h1 := ih (l := l.erase n) (hd.erase n) (fun x hx => by
      have := h x (List.mem_of_mem_erase hx)
      have h2 := (List.Nodup.mem_erase_iff hd).1 hx
      omega)
    rw [List.length_erase] at h1
    split at h1 <;> omega
theorem pts_len {B : Bk} (hB : B.pos) {l : List Int} (hd : l.Nodup) (h0 : ∀ w ∈ l, 0 ≤ w) (hp : ∀ w ∈ l, ∃ x, Pt B w x) : l.length ≤ B.y.flatten.length + B.o.flatten.length := by
  have hc : (l.map (fun w => (if pOld w then B.y.flatten.length else 0) + (pIx w).toNat)).length ≤ B.y.flatten.length + B.o.flatten.length := by
    refine nodup_le _ ?_ ?_
    · refine List.Pairwise.map _ (R := fun a b => ¬ (a = b) ∧ a ∈ l ∧ b ∈ l) ?_ ?_
      · rintro a b ⟨hne, ha, hb⟩ e
        obtain ⟨x, hx⟩ := hp a ha
        obtain ⟨y, hy⟩ := hp b hb
        have b1 := hx.2.1.bound
        have b2 := hy.2.1.bound
        have p1 := (hB.s _) x hx.2.1.mem
        have p2 := (hB.s _) y hy.2.1.mem
        refine hne (Pt.inj hB hx hy (h0 a ha) (h0 b hb) ?_ ?_)
        · cases h1 : pOld a <;> cases h2 : pOld b <;> simp [h1, h2, Bk.s] at e b1 b2 ⊢ <;> omega
        · cases h1 : pOld a <;> cases h2 : pOld b <;> simp [h1, h2, Bk.s] at e b1 b2 ⊢ <;> omega
      · exact List.Pairwise.imp_of_mem (fun ha hb hne => ⟨hne, ha, hb⟩) hd
    · intro z hz
      obtain ⟨w, hw, rfl⟩ := List.mem_map.1 hz
      obtain ⟨x, hx⟩ := hp w hw
      have b1 := hx.2.1.bound
      have p1 := (hB.s _) x hx.2.1.mem
      cases h1 : pOld w <;> simp [h1, Bk.s] at b1 ⊢ <;> omega
  rwa [List.length_map] at hc
end Go.Proofs.YtpnlnbolhkcnjaaGreat.cl
