/- Several texts in one, one behind the other: LkP. No condition beyond theirs. -/
import Derived.Test.YtnakbepcalciiaaGreatGr
/- mine: the pairs of a local process. Conditions: the object was made by New; the term lies in memory. -/
namespace Go.Proofs.YtnakbepcalciiaaGreat.lk
open Go.RowKit mem rec tm names pm
set_option linter.unusedVariables false
set_option linter.unusedSimpArgs false
set_option maxHeartbeats 4000000
set_option maxRecDepth 100000
theorem results_cell3 {fn : Func} {p u v : Tmp} {ty : TypeId} (h : fn.results = #[.cell p ty, .tmp u, .tmp v]) (tmps : Array Value) (P : Program) (w : World) :
    (results fn tmps).run P w = ((asAddr (tmps.getD p undef)).run P w).andThen fun a w₁ => ((loadVar ty a).run P w₁).andThen fun x w₂ => .ok (.tuple #[x, tmps.getD u undef, tmps.getD v undef]) w₂ := by
  simp only [results, h]
  simp [Sem.run_bind, Result.andThen]
theorem mine146 {w : World} {bx : Nat} (x : Id) (hx : w.heap[bx]? = some (.cells #[.int .i64 x.1, .string x.2.1, .int .i64 x.2.2.1, .int .i64 x.2.2.2] 147)) (p : Pr) : Calls Tryz.prog 146 #[prV p, .pointer (some ⟨bx, 0, none⟩)] w fun e w' => e = .returned (.bool (decide (p.1 = x))) ∧ Below w.heap.size w w' := by
  obtain ⟨x1, x2, x3, x4⟩ := x
  obtain ⟨⟨u1, u2, u3, u4⟩, ⟨v1, v2, v3, v4⟩⟩ := p
  have hq := eqlId (u1, u2, u3, u4) (x1, x2, x3, x4)
  have hlt : bx < w.heap.size := (Array.getElem?_eq_some_iff.1 hx).1
  have hb := belowA (Below.refl w.heap.size w) (.cells #[.int .i64 u1, .string u2, .int .i64 u3, .int .i64 u4, .int .i64 v1, .string v2, .int .i64 v3, .int .i64 v4] 149) (Nat.le_refl _)
  have hn := alloc_new w (.cells #[.int .i64 u1, .string u2, .int .i64 u3, .int .i64 u4, .int .i64 v1, .string v2, .int .i64 v3, .int .i64 v4] 149)
  have hx' := (hb.block _ hlt).trans hx
  unfold idV at hq
  unfold prV
  dsimp only at *
  generalize decide ((u1, u2, u3, u4) = (x1, x2, x3, x4)) = q at *
  have HB := Lib.hid hb
  clear hb hx hlt
  go_enter Tryz.func146, Tryz.ntmps146
  go_upto_region 1 with (fail)
  generalize (w.alloc (.cells #[.int .i64 u1, .string u2, .int .i64 u3, .int .i64 u4, .int .i64 v1, .string v2, .int .i64 v3, .int .i64 v4] 149)) = W1 at *
  obtain ⟨r0, r1, r2, r3, r4, r5, r6, r7, rf⟩ := eight_cells hn
  obtain ⟨b0, b1, b2, b3, bf⟩ := four_cells hx'
  go_wp2_with fail
  go_ret
  exact ⟨rfl, HB.out⟩
theorem touch4 (w : World) (g : Nat) (a b c d : Value) : TouchB (fun i => i = g) w ((((w.setCell ⟨g, 0, none⟩ a).setCell ⟨g, 1, none⟩ b).setCell ⟨g, 2, none⟩ c).setCell ⟨g, 3, none⟩ d) :=
  have h1 := (TouchB.refl (fun i => i = g) w).setCell ⟨g, 0, none⟩ a (fun _ => rfl)
  have h2 := h1.setCell ⟨g, 1, none⟩ b (fun _ => rfl)
  have h3 := h2.setCell ⟨g, 2, none⟩ c (fun _ => rfl)
  h3.setCell ⟨g, 3, none⟩ d (fun _ => rfl)
theorem heap4 (w : World) (g : Nat) (a b c d : Value) {k : Nat} (h : k ≠ g) : ((((w.setCell ⟨g, 0, none⟩ a).setCell ⟨g, 1, none⟩ b).setCell ⟨g, 2, none⟩ c).setCell ⟨g, 3, none⟩ d).heap[k]? = w.heap[k]? := by
  rw [Below.heap_setCell _ _ _ _ h, Below.heap_setCell _ _ _ _ h, Below.heap_setCell _ _ _ _ h, Below.heap_setCell _ _ _ _ h]
def MineP (ok : Bool) (x : Id) (H : List (Pr × Int)) (w : World) (e : Ending) (w' : World) : Prop :=
  ∃ v L, e = .returned (.tuple #[idV (if ok then x else zId), v, .bool ok]) ∧ L.Perm (if ok then (keys H).filter (fun p => decide (p.1 = x)) else []) ∧ L.Pairwise (fun x y => cmP x y ≤ 0) ∧ RecAt prL 8 w' w'.heap.size v L ∧ (∀ i, v.ownBlock = some i → w.heap.size ≤ i) ∧ Below w.heap.size w w'
theorem mine82 {n : Nat} {w : World} {z mh mm : Nat} {s : LkSt} (h : LkAt w z mh mm s) (hlen : s.H.length ≤ 100000000) (B : Nat) (va : Value) (ta : Tm (n + 1)) (hB : B ≤ w.heap.size) (ha : ItemsAt w B n va ta.items) (sa : 300 * (nodesT ta : Int) ≤ 1000000000000) :
    Calls Tryz.prog 82 #[.pointer (some ⟨z, 0, none⟩), aggV ta.f va] w (MineP ((decide (ta.f.kind = 6) && validT ta) && locB s.node s.gen (idOf ta.f)) (idOf ta.f) s.H w) := by
  have HOA := Lib.hid (fun W (hW : Below w.heap.size w W) => of86 W B va ta 6 (Nat.le_trans hB hW.size) (ha.below hW hB) sa)
  have HN := Lib.hid (fun W (hW : Below w.heap.size w W) => none85 (h.below hW).obj)
  have HLX := Lib.hid (fun W (hW : Below w.heap.size w W) => local80 (h.below hW).obj (idOf ta.f))
  have H0 := Lib.hid h
  have HLn := Lib.hid hlen
  have hT : ∀ (W : World) (bx : Nat), W.heap[bx]? = some (.cells #[.int .i64 (idOf ta.f).1, .string (idOf ta.f).2.1, .int .i64 (idOf ta.f).2.2.1, .int .i64 (idOf ta.f).2.2.2] 147) → Below w.heap.size w W → Calls Tryz.prog 94 #[.pointer (some ⟨z, 0, none⟩), .func (.func 146) #[] #[.pointer (some ⟨bx, 0, none⟩)]] W (SortedP (fun p => decide (p.1 = idOf ta.f)) s.H W) := fun W bx hx hW =>
    sorted94 (h.below hW) hlen (enters_of Tryz.func146 (by kernel_rfl) rfl) (fun W2 p hb => mine146 (idOf ta.f) ((hb.block _ (Array.getElem?_eq_some_iff.1 hx).1).trans hx) p)
  have HT := Lib.hid hT
  obtain ⟨pa, ca, rfl, _, _⟩ := ha.shape
  clear ha sa hB h hlen hT
  generalize (decide (ta.f.kind = 6) && validT ta) = ra at *
  generalize ta.items.length = na at *
  generalize ta.f = fa at *
  generalize locB s.node s.gen (idOf fa) = la at *
  have hA0 := nine_of (alloc_new w (cells9 fa (.slice pa na ca)))
  have hb1 := belowA (Below.refl w.heap.size w) (cells9 fa (.slice pa na ca)) (Nat.le_refl _)
  have hb2 := belowA hb1 (.cells #[.int .i64 0, .string ⟨#[]⟩, .int .i64 0, .int .i64 0] 147) hb1.size
  have hA := hA0.below (belowA (Below.refl (w.alloc (cells9 fa (.slice pa na ca))).heap.size _) (.cells #[.int .i64 0, .string ⟨#[]⟩, .int .i64 0, .int .i64 0] 147) (Nat.le_refl _)) (by rw [World.size_alloc]; omega)
  have hR := alloc_new (w.alloc (cells9 fa (.slice pa na ca))) (.cells #[.int .i64 0, .string ⟨#[]⟩, .int .i64 0, .int .i64 0] 147)
  rw [World.size_alloc] at hR
  have hs2 : ((w.alloc (cells9 fa (.slice pa na ca))).alloc (.cells #[.int .i64 0, .string ⟨#[]⟩, .int .i64 0, .int .i64 0] 147)).heap.size = w.heap.size + 2 := by rw [World.size_alloc, World.size_alloc]
  obtain ⟨ak, ai, ag, an, af, aa, ab, az⟩ := fa
  unfold aggV idV idOf at *
  unfold cells9 at *
  dsimp only at *
  have HA := Lib.hid hA
  have HR := Lib.hid hR
  have HB2 := Lib.hid hb2
  have HS2 := Lib.hid hs2
  clear hA0 hA hR hb1 hb2 hs2
  go_enter Tryz.func82, Tryz.ntmps82
  go_upto_region 1 with (fail)
  generalize ((w.alloc (.cells #[.int .i64 ak, .int .i64 ai, .int .i64 ag, .string an, .string af, .int .i64 aa, .slice pa na ca, .string ab, .int .i64 az] 30)).alloc (.cells #[.int .i64 0, .string ⟨#[]⟩, .int .i64 0, .int .i64 0] 147)) = W1 at *
  have hRl : w.heap.size + 1 < W1.heap.size := by have := HS2.out; omega
  obtain ⟨x0, x1, x2, x3, x4, x5, x6, x7, x8, xf⟩ := HA.out
  dsimp only at x0 x1 x2 x3 x4 x5 x6 x7 x8
  go_wp2_with fail
  refine (HOA.out _ HB2.out).mono ?_
  rintro e W2 ⟨rfl, hb2⟩
  clear x0 x1 x2 x3 x4 x5 x6 x7 x8 xf HOA HA
  go_upto_region 2 with (fail)
  have hX := alloc_new W2 (.cells #[.int .i64 ak, .string an, .int .i64 ag, .int .i64 ai] 147)
  have hb3 := belowA hb2 (.cells #[.int .i64 ak, .string an, .int .i64 ag, .int .i64 ai] 147) hb2.size
  have hzl : W2.heap.size < (W2.alloc (.cells #[.int .i64 ak, .string an, .int .i64 ag, .int .i64 ai] 147)).heap.size := by rw [World.size_alloc]; omega
  have hzx := hb2.size
  clear hb2
  generalize (W2.alloc (.cells #[.int .i64 ak, .string an, .int .i64 ag, .int .i64 ai] 147)) = W3 at *
  generalize W2.heap.size = zx at *
  have hbw := HB2.out.trans (hb3.mono HB2.out.size)
  have hR3 := (hb3.block _ hRl).trans HR.out
  have hRl3 := Nat.lt_of_lt_of_le hRl hb3.size
  have HB3 := Lib.hid hbw
  have HXa := Lib.hid (fun W (hW : Below W3.heap.size W3 W) => (hW.block _ hzl).trans hX)
  have HRa := Lib.hid (fun W (hW : Below W3.heap.size W3 W) => four_cells ((hW.block _ hRl3).trans hR3))
  clear hb3 hbw hX hR3
  have hN3 := HN.out _ HB3.out
  have hL3 := HLX.out _ HB3.out
  go_cut [25] from 14 to 25 (fun v wc => v = .bool (!(ra && la)) ∧ Below W3.heap.size W3 wc)
  case first =>
    go_wp2_with fail
    refine hN3.mono ?_
    rintro e w1 ⟨rfl, rfl⟩
    obtain ⟨a0, a1, a2, a3, af'⟩ := four_cells (HXa.out _ (Below.refl _ _))
    cases ra
    · go_wp2_with fail
      go_meet
      exact ⟨rfl, Below.refl _ _⟩
    · go_wp2_with fail
      refine hL3.mono ?_
      rintro e W4 ⟨rfl, hb4⟩
      go_wp2_with fail
      go_meet
      exact ⟨by cases la <;> rfl, hb4⟩
  case rest =>
    obtain ⟨hv, hb4⟩ := hcut
    obtain ⟨a0, a1, a2, a3, af'⟩ := four_cells (HXa.out _ hb4)
    obtain ⟨q0, q1, q2, q3, qf⟩ := HRa.out _ hb4
    have hbw := HB3.out.trans (hb4.mono HB3.out.size)
    have HS := Lib.hid (fun W (hW : Below wc.heap.size wc W) => HT.out W zx (HXa.out _ (hb4.trans (hW.mono hb4.size))) (hbw.trans (hW.mono hbw.size)))
    have HBw := Lib.hid hbw
    have HBs : Hid (w.heap.size + 1 < wc.heap.size) := Lib.hid (Nat.lt_of_lt_of_le hRl3 hb4.size)
    have HR4 := Lib.hid (fun W (hW : Below wc.heap.size wc W) => HRa.out W (hb4.trans (hW.mono hb4.size)))
    have HXc := Lib.hid (fun W (hW : Below wc.heap.size wc W) => four_cells (HXa.out W (hb4.trans (hW.mono hb4.size))))
    clear hN3 hL3 hbw hb4 HT HN HLX
    obtain ⟨ok, hok⟩ : ∃ ok, (ra && la) = ok := ⟨_, rfl⟩
    have HOK := Lib.hid hok
    rw [hok] at hv
    clear hok
    cases ok
    · have hv : u25 = .bool true := hv
      subst hv
      go_wp2_with fail
      (try simp only [Exit.inBlock, Exit.then])
      refine bodyPost_ret (v := .tuple #[.agg #[.int .i64 0, .string ⟨#[]⟩, .int .i64 0, .int .i64 0], .slice none 0 0, .bool false]) ?_ rfl ⟨.slice none 0 0, [], by rw [HOK.out]; rfl, by rw [HOK.out]; exact List.Perm.refl _, List.Pairwise.nil, RecAt.nil _ _ _ _ (Nat.zero_le _), fun i hi => by simp [Value.ownBlock] at hi, ?_⟩
      · rw [results_cell3 rfl]
        go_simp
      · exact sets4 HBw.out (Nat.le_succ _) _ _ _ _
    · have hv : u25 = .bool false := hv
      subst hv
      go_upto_region 4 with (fail)
      have hmf : ∀ (fn : Fn) (first cap : Array Value) (w : World), (Instr.makeFunc fn first cap).run Tryz.prog w = .ok (.func fn first cap) w := fun _ _ _ _ => rfl
      have hbd : Below wc.heap.size wc wc.drew := belowD (Below.refl _ _)
      clear q0 q1 q2 q3 qf
      have hne1 : ¬ zx = w.heap.size + 1 := by omega
      have hne2 : ¬ w.heap.size + 1 = zx := by omega
      go_region_held3 (fun w' => w'.cell? ⟨zx, 0, none⟩ = some (.int .i64 ak) ∧ w'.cell? ⟨zx, 1, none⟩ = some (.string an) ∧ w'.cell? ⟨zx, 2, none⟩ = some (.int .i64 ag) ∧ w'.cell? ⟨zx, 3, none⟩ = some (.int .i64 ai)) (go_keep)
        (first
          | (go_at_call 94; (with_reducible refine (HS.out _ hbd).mono ?_); rintro e w1 ⟨v, L, rfl, hp, hs, hr, ho, hb⟩; obtain ⟨pv, cv, rfl, _, _⟩ := hr.shape; have hbe := hbd.trans (hb.mono hbd.size); clear a0 a1 a2 a3 af'; obtain ⟨a0, a1, a2, a3, af'⟩ := HXc.out _ hbe; obtain ⟨q0, q1, q2, q3, qf⟩ := HR4.out _ hbe))
      all_goals
        go_wp2_with fail
        (try simp only [Exit.inBlock, Exit.then])
        have ht4 := touch4 w1 (w.heap.size + 1) (.int .i64 ak) (.string an) (.int .i64 ag) (.int .i64 ai)
        refine bodyPost_ret (v := .tuple #[.agg #[.int .i64 ak, .string an, .int .i64 ag, .int .i64 ai], .slice pv L.length cv, .bool true]) ?_ rfl ⟨.slice pv L.length cv, L, by rw [HOK.out]; rfl, by rw [HOK.out]; exact hp, hs, ?_, ?_, ?_⟩
        · rw [results_cell3 rfl]
          go_simp
        · exact (hr.block (fun i hi => heap4 _ _ _ _ _ _ (by have := ho i hi; have := HBw.out.size; have := HBs.out; have e : wc.drew.heap.size = wc.heap.size := rfl; omega))).more ht4.size
        · intro i hi
          have := ho i hi
          have := HBw.out.size
          have e : wc.drew.heap.size = wc.heap.size := rfl
          omega
        · exact sets4 (HBw.out.trans (hbe.mono HBw.out.size)) (Nat.le_succ _) _ _ _ _
end Go.Proofs.YtnakbepcalciiaaGreat.lk
