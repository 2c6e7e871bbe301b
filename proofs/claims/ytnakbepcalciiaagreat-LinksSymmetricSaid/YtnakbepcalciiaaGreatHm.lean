/- Several texts in one, one behind the other: LkSf. No condition beyond theirs. -/
import Derived.Test.YtnakbepcalciiaaGreatHl
import Derived.Test.YtnakbepcalciiaaGreatHg
import Derived.Deep.RegionHeld3
import Derived.Deep.CutRange
import Derived.Deep.CutBlock
/- LinksSymmetric. Conditions: the script lies in memory. -/
namespace Go.Proofs.YtnakbepcalciiaaGreat.lk
open Go.RowKit mem rec tm names pm
set_option linter.unusedVariables false
set_option linter.unusedSimpArgs false
set_option maxHeartbeats 4000000
set_option maxRecDepth 100000
def SyO (base z mh mm : Nat) (W : World) (len n : Nat) (iv : Value) (wr : World) : Prop := ∃ (i : Nat) (S : LkSt), iv = .int .i64 i ∧ i ≤ len ∧ n = len - i ∧ LkAt wr z mh mm S ∧ Sym S (2 * i) ∧ Below base W wr
def SyM (z mh mm : Nat) (S : LkSt) (W : World) (n : Nat) (iv : Value) (wr : World) : Prop := ∃ k : Nat, iv = .int .i64 (k : Int) ∧ 1 ≤ k ∧ k ≤ 5 ∧ n = 5 - k ∧ Below W.heap.size W wr
theorem pick17'' (a : Int) (w : World) : Calls Tryz.prog 17 #[.int .i64 a, .int .i64 4] w (fun e w' => ∃ k : Nat, e = .returned (.int .i64 k) ∧ k < 4 ∧ w = w') := pickP a 4 (by decide) (by decide) w
theorem pid_eq {a b : Int} : (pidI nmN a = pidI nmN b) = (a = b) := by
  unfold pidI
  simp
theorem OpsAt.shape {w : World} {B n : Nat} {v : Value} {l : List (OpR n)} (h : OpsAt w B n v l) : ∃ p c, v = .slice p l.length c ∧ l.length ≤ c ∧ c ≤ maxLen := by
  obtain ⟨p, c, e, h1, h2, _⟩ := h
  exact ⟨p, c, e, h1, h2⟩
theorem OpsAt.nth {w : World} {B n c k : Nat} {p : Option Addr} {l : List (OpR n)} (h : OpsAt w B n (.slice p k c) l) {i : Nat} (hi : i < l.length) : ∃ g o, p = some ⟨g, o, none⟩ ∧ g < B ∧ OpAt w B n g (o + i * 30) l[i] := by
  obtain ⟨p', c', e, h1, h2, h3⟩ := h
  obtain ⟨g, o, e', hg, hc⟩ := h3 (by intro e; subst e; simp at hi)
  simp only [Value.slice.injEq] at e
  exact ⟨g, o, e.1.trans e', hg, hc i hi⟩
/-- what a round of the script reads -/
theorem OpAt.ints {w : World} {B n g o : Nat} {x : OpR n} (h : OpAt w B n g o x) : w.cell? ⟨g, o, none⟩ = some (.int .i64 x.kind) ∧ w.cell? ⟨g, o + 2, none⟩ = some (.int .i64 x.a.f.int) ∧ w.cell? ⟨g, o + 11, none⟩ = some (.int .i64 x.b.f.int) := by
  obtain ⟨h1, ⟨ua, h2, _⟩, ⟨ub, h3, _⟩, _⟩ := h
  exact ⟨h1, h2.c1, h3.c1⟩
theorem lawSymmetric (W : World) {n B : Nat} (v : Value) (l : List (OpR n)) (hB : B ≤ W.heap.size) (hs : OpsAt W B n v l) : Calls Tryz.prog 3 #[v] W (fun e w' => e = .returned (.bool true) ∧ Below W.heap.size W w') := by
  have HSh := Lib.hid (fun w => shown14 w)
  have HN := Lib.hid (fun w => new15 nmN 1 w)
  have HPi := Lib.hid (fun w n => pid16 nmN n w)
  have HPk := Lib.hid (fun w a => pick17'' a w)
  unfold nmN at HN
  unfold idA pidI nmN at HPi
  dsimp only at HPi
  obtain ⟨p, c, rfl, _, _⟩ := hs.shape
  have HO := Lib.hid (fun w' (h : Below W.heap.size W w') => hs.below h hB)
  have HBw := Lib.hid hB
  clear hs hB
  by_cases h3 : (150 : Int) < (l.length : Int)
  · clear HPi HPk HN HO
    go_enter Tryz.func3, Tryz.ntmps3
    go_wp2_with fail
    refine (HSh.out _).mono ?_
    rintro e w1 ⟨rfl, hb1⟩
    go_wp2_with fail
    go_ret
    exact ⟨rfl, hb1⟩
  · go_enter Tryz.func3, Tryz.ntmps3
    go_wp2_with fail
    refine (HSh.out _).mono ?_
    rintro e w1 ⟨rfl, hb1⟩
    have HB1 := Lib.hid hb1
    clear hb1
    go_wp2_with fail
    refine (HN.out _).mono ?_
    rintro e W5 ⟨hb5, ⟨hn, _⟩ | ⟨_, z, mh, mm, rfl, hS0, hz1, hz2, hz3⟩⟩
    · exact absurd hn (by rw [show newB ⟨#[110]⟩ 1 = newB nmN 1 from rfl, new_n]; decide)
    have HB5 := Lib.hid (HB1.out.trans (hb5.mono HB1.out.size))
    have HZ : Hid (W.heap.size ≤ z ∧ W.heap.size ≤ mh ∧ W.heap.size ≤ mm) := Lib.hid (by have := HB1.out.size; omega)
    have hlen : l.length ≤ 150 := by omega
    have HLen := Lib.hid hlen
    have H00 : Hid (SyO W.heap.size z mh mm W l.length l.length (.int .i64 0) W5) := Lib.hid ⟨0, ⟨nmN, 1, 0, [], []⟩, rfl, Nat.zero_le _, rfl, hS0, Sym.start, HB5.out⟩
    clear hS0 hb5 hz1 hz2 hz3 HN HSh HB1 hlen
    go_wp2_with fail
    go_loopg [5] l.length (fun n iv wr => Hid (SyO W.heap.size z mh mm W l.length n iv wr))
    case atStart => exact H00
    case round =>
      obtain ⟨i, S, rfl, hi, hn, hS, hY, hbw⟩ := hrel.out
      clear hrel H00
      by_cases hlt : i < l.length
      · have r1 : (i : Int) < (l.length : Int) := by omega
        obtain ⟨g, o, e1, hg, hop⟩ := (HO.out _ hbw).nth hlt
        subst e1
        have HCs := Lib.hid (fun w' (h : Below wr.heap.size wr w') => (hop.below h (Nat.le_trans HBw.out hbw.size) hg).ints)
        generalize l[i].kind = ok at *
        generalize l[i].a.f.int = oa at *
        generalize l[i].b.f.int = ob at *
        have HG : Hid (g < wr.heap.size) := Lib.hid (Nat.lt_of_lt_of_le hg (Nat.le_trans HBw.out hbw.size))
        have ngr := Nat.ne_of_lt HG.out
        have nrg := Nat.ne_of_gt HG.out
        have HN := Lib.hid hn
        have HS := Lib.hid hS
        have HY := Lib.hid hY
        have HBr := Lib.hid hbw
        have HI : Hid (i ≤ 150) := Lib.hid (by have := HLen.out; omega)
        clear hop hn hS hY hbw hg
        go_upto_region 11 with (fail)
        go_cut [6, 7] from 31 to 48 (fun a b wc => ∃ (ka kb za zb : Nat), a = .pointer (some ⟨za, 0, none⟩) ∧ b = .pointer (some ⟨zb, 0, none⟩) ∧ ka < 4 ∧ kb < 4 ∧ wr.heap.size ≤ za ∧ wr.heap.size ≤ zb ∧ wc.heap[za]? = some (.cells #[.int .i64 6, .int .i64 (1 + (ka : Int)), .int .i64 1, .string ⟨#[110]⟩, .string ⟨#[]⟩, .int .i64 0, .slice none 0 0, .string ⟨#[]⟩, .int .i64 0] 30) ∧ wc.heap[zb]? = some (.cells #[.int .i64 6, .int .i64 (1 + (kb : Int)), .int .i64 1, .string ⟨#[110]⟩, .string ⟨#[]⟩, .int .i64 0, .slice none 0 0, .string ⟨#[]⟩, .int .i64 0] 30) ∧ Below wr.heap.size wr wc)
        case first =>
          have hbd : Below wr.heap.size wr wr.drew := belowD (Below.refl _ _)
          obtain ⟨k0, k1, k2⟩ := HCs.out _ hbd
          obtain ⟨j0, j1, j2⟩ := HCs.out _ (Below.refl _ _)
          go_region_held3 (fun w' => w'.cell? ⟨g, o + i * 30 + 2, none⟩ = some (.int .i64 oa) ∧ w'.cell? ⟨g, o + i * 30 + 11, none⟩ = some (.int .i64 ob)) (go_keep)
            (first
              | (go_at_call 17; (with_reducible refine (HPk.out _ oa).mono ?_); rintro e w' ⟨ka, rfl, hka, rfl⟩; have hwa := IntWalk.i64_in (1 + (ka : Int)) (by omega))
              | (go_at_call 17; (with_reducible refine (HPk.out _ ob).mono ?_); rintro e w' ⟨kb, rfl, hkb, rfl⟩; have hwb := IntWalk.i64_in (1 + (kb : Int)) (by omega))
              | (go_at_call 16; (with_reducible refine (HPi.out _ (1 + (ka : Int))).mono ?_); rintro e wa ⟨rfl, hb⟩; (with_reducible (first | (have hbn := belowCC hbd hb) | (have hbn := belowCC (belowAA hbd _) hb) | (have hbn := belowCC (belowAA (belowAA hbd _) _) hb) | (have hbn := belowCC (belowD (belowAA (Below.refl wr.heap.size wr) _)) hb) | (have hbn := belowCC (belowD (belowAA (belowAA (Below.refl wr.heap.size wr) _) _)) hb))); replace hbd := hbn; clear hbn; (with_reducible (first | (have hX := bx2 hb; obtain ⟨⟨HZp, HZq⟩, hla⟩ := hX; have hgp := Nat.le_refl wr.heap.size; have hgq := Nat.le_add_right wr.heap.size 1; have npq := Nat.ne_of_lt (Nat.lt_add_one wr.heap.size); have nqp := Nat.ne_of_gt (Nat.lt_add_one wr.heap.size)) | (have hX := bx2D hb; obtain ⟨⟨HZp, HZq⟩, hla⟩ := hX; have hgp := Nat.le_refl wr.heap.size; have hgq := Nat.le_add_right wr.heap.size 1; have npq := Nat.ne_of_lt (Nat.lt_add_one wr.heap.size); have nqp := Nat.ne_of_gt (Nat.lt_add_one wr.heap.size)) | (have hX := bx1 hb; obtain ⟨HZp, hla⟩ := hX; have hgp := Nat.le_refl wr.heap.size) | (have hX := bx1D hb; obtain ⟨HZp, hla⟩ := hX; have hgp := Nat.le_refl wr.heap.size) | skip)); (try have nab := Nat.ne_of_lt hla); (try have nba := Nat.ne_of_gt hla); have hsw := hbd.size; have hga := Nat.lt_of_lt_of_le HG.out hbd.size; have nga := Nat.ne_of_lt hga; have nag := Nat.ne_of_gt hga; clear hb; obtain ⟨k0, k1, k2⟩ := HCs.out _ hbd)
              | (go_at_call 16; (with_reducible refine (HPi.out _ (1 + (kb : Int))).mono ?_); rintro e wb ⟨rfl, hb⟩; (with_reducible (first | (have hab := belowCC (Below.refl wa.heap.size wa) hb) | (have hab := belowCC (belowAA (Below.refl wa.heap.size wa) _) hb) | (have hab := belowCC (belowAA (belowAA (Below.refl wa.heap.size wa) _) _) hb))); replace hbd := belowCC hbd hab; (try replace HZp := fun W' (h : Below wb.heap.size wb W') => HZp W' (belowCC hab h)); (try replace HZq := fun W' (h : Below wb.heap.size wb W') => HZq W' (belowCC hab h)); (with_reducible (first | (have hX := bx2 hb; obtain ⟨⟨HZp, HZq⟩, hlb⟩ := hX; have hgp := hsw; have hgq := Nat.le_trans hsw (Nat.le_add_right _ 1); have npq := Nat.ne_of_lt (Nat.lt_add_one wa.heap.size); have nqp := Nat.ne_of_gt (Nat.lt_add_one wa.heap.size)) | (have hX := bx1 hb; obtain ⟨HZr, hlb⟩ := hX; have hgr := hsw) | skip)); have hsa := hab.size; have hsv := hbd.size; have hgb := Nat.lt_of_lt_of_le HG.out hbd.size; have ngb := Nat.ne_of_lt hgb; have nbg := Nat.ne_of_gt hgb; have ngb1 := Nat.ne_of_lt (show g < wb.heap.size + 1 from Nat.lt_succ_of_lt hgb); have ngb1' := Nat.ne_of_gt (show g < wb.heap.size + 1 from Nat.lt_succ_of_lt hgb); have nga1 := Nat.ne_of_lt (show g < wa.heap.size + 1 from Nat.lt_succ_of_lt hga); have nga1' := Nat.ne_of_gt (show g < wa.heap.size + 1 from Nat.lt_succ_of_lt hga); have ngr1 := Nat.ne_of_lt (show g < wr.heap.size + 1 from Nat.lt_succ_of_lt HG.out); have ngr1' := Nat.ne_of_gt (show g < wr.heap.size + 1 from Nat.lt_succ_of_lt HG.out); (try have nac := Nat.ne_of_lt (Nat.lt_of_lt_of_le hla hsa)); (try have nca := Nat.ne_of_gt (Nat.lt_of_lt_of_le hla hsa)); (try have nbc := Nat.ne_of_lt hlb); (try have ncb := Nat.ne_of_gt hlb); (try (have hYp := nineC (HZp wb (Below.refl _ _)); have hWp := allO (fun O => nineC (HZp (wb.alloc O) (belowAA (Below.refl _ _) O))); obtain ⟨p0, p1, p2, p3, p4, p5, p6, p7, p8, pf⟩ := hYp; obtain ⟨pO0, pO1, pO2, pO3, pO4, pO5, pO6, pO7, pO8, pOf⟩ := hWp)); (try (have hYq := nineC (HZq wb (Below.refl _ _)); have hWq := allO (fun O => nineC (HZq (wb.alloc O) (belowAA (Below.refl _ _) O))); obtain ⟨q0, q1, q2, q3, q4, q5, q6, q7, q8, qf⟩ := hYq; obtain ⟨qO0, qO1, qO2, qO3, qO4, qO5, qO6, qO7, qO8, qOf⟩ := hWq)); (try (have hYr := nineC (HZr wb (Below.refl _ _)); have hWr := allO (fun O => nineC (HZr (wb.alloc O) (belowAA (Below.refl _ _) O))); obtain ⟨r0, r1, r2, r3, r4, r5, r6, r7, r8, rf⟩ := hYr; obtain ⟨rO0, rO1, rO2, rO3, rO4, rO5, rO6, rO7, rO8, rOf⟩ := hWr)); obtain ⟨k0, k1, k2⟩ := HCs.out _ hbd)
              | fail)
          all_goals
            go_wp2_with fail
            go_meet
            first
              | with_reducible exact ⟨ka, kb, _, _, rfl, rfl, hka, hkb, leaf1 hbd⟩
              | with_reducible exact ⟨ka, kb, _, _, rfl, rfl, hka, hkb, leaf1' hbd⟩
              | with_reducible exact ⟨ka, kb, _, _, rfl, rfl, hka, hkb, leaf3 hbd (HZp _ (Below.refl _ _)) hgp⟩
              | with_reducible exact ⟨ka, kb, _, _, rfl, rfl, hka, hkb, leaf4 hbd (HZp _ (Below.refl _ _)) hgp⟩
              | with_reducible exact ⟨ka, kb, _, _, rfl, rfl, hka, hkb, leaf3 hbd (HZr _ (Below.refl _ _)) hgr⟩
              | with_reducible exact ⟨ka, kb, _, _, rfl, rfl, hka, hkb, leaf4 hbd (HZr _ (Below.refl _ _)) hgr⟩
              | with_reducible exact ⟨ka, kb, _, _, rfl, rfl, hka, hkb, leaf2 hbd (HZp _ (Below.refl _ _)) (HZq _ (Below.refl _ _)) hgp hgq npq⟩
              | with_reducible exact ⟨ka, kb, _, _, rfl, rfl, hka, hkb, leaf2 hbd (HZq _ (Below.refl _ _)) (HZp _ (Below.refl _ _)) hgq hgp nqp⟩
              | with_reducible exact ⟨ka, kb, _, _, rfl, rfl, hka, hkb, leaf2 hbd (HZp _ (Below.refl _ _)) (HZr _ (Below.refl _ _)) hgp hgr nab⟩
              | with_reducible exact ⟨ka, kb, _, _, rfl, rfl, hka, hkb, leaf2 hbd (HZr _ (Below.refl _ _)) (HZp _ (Below.refl _ _)) hgr hgp nba⟩
              | with_reducible exact ⟨ka, kb, _, _, rfl, rfl, hka, hkb, leaf5 hbd (HZp _ (Below.refl _ _)) hgp⟩
              | with_reducible exact ⟨ka, kb, _, _, rfl, rfl, hka, hkb, leaf6 hbd (HZp _ (Below.refl _ _)) hgp⟩
              | with_reducible exact ⟨ka, kb, _, _, rfl, rfl, hka, hkb, leaf5 hbd (HZr _ (Below.refl _ _)) hgr⟩
              | with_reducible exact ⟨ka, kb, _, _, rfl, rfl, hka, hkb, leaf6 hbd (HZr _ (Below.refl _ _)) hgr⟩
              | fail "leaf"
        case rest =>
          obtain ⟨ka, kb, za, zb, rfl, rfl, hka, hkb, hga, hgb, hxa, hxb, hb2⟩ := hcut
          have HA := Lib.hid hxa
          have HBx := Lib.hid hxb
          have HGa : Hid (wr.heap.size ≤ za ∧ wr.heap.size ≤ zb) := Lib.hid ⟨hga, hgb⟩
          have hla := (Array.getElem?_eq_some_iff.1 hxa).1
          have hlb := (Array.getElem?_eq_some_iff.1 hxb).1
          have HB2 := Lib.hid hb2
          have hP1 : P4 (pidI nmN (1 + (ka : Int))) := p4 (by omega) (by omega)
          have hP2 : P4 (pidI nmN (1 + (kb : Int))) := p4 (by omega) (by omega)
          have HS2 := Lib.hid (HS.out.below hb2)
          have hIl : 2 * i + 2 ≤ 1000 := by have := HI.out; omega
          have HJ := Lib.hid (joinP HS2.out HY.out hP1 hP2)
          have HPt := Lib.hid (partP HS2.out HY.out hP1 hP2)
          have HE := Lib.hid (endP HS2.out HY.out (by omega) (pidI nmN (1 + (ka : Int))))
          have HSm := Lib.hid (fun W => same21 (pidI nmN (1 + (ka : Int))) (pidI nmN (1 + (kb : Int))) W)
          have hZ2 : Hid (z < wr.heap.size ∧ mh < wr.heap.size ∧ mm < wr.heap.size) := Lib.hid ⟨HS.out.zlt, HS.out.hlt, HS.out.mlt⟩
          have HQ : Hid (∀ W', SymQ z mh mm (2 * i + 2) wc W' → (W'.heap[za]? = wc.heap[za]?) ∧ (W'.heap[zb]? = wc.heap[zb]?)) := Lib.hid (fun W' h => by
            obtain ⟨_, _, _, ht⟩ := h
            have h1 := hZ2.out
            have h2 := HGa.out
            exact ⟨ht.block _ hla (fun e => by rcases e with e | e | e <;> omega), ht.block _ hlb (fun e => by rcases e with e | e | e <;> omega)⟩)
          simp only [pid_eq] at HJ HSm
          have HKq : Hid (((1 + (ka : Int)) = (1 + (kb : Int))) ∨ ¬ ((1 + (ka : Int)) = (1 + (kb : Int)))) := Lib.hid (Classical.em _)
          unfold idA pidI nmN at HJ HPt HE HSm
          dsimp only at HJ HPt HE HSm
          obtain ⟨kd0, kd1, kd2⟩ := HCs.out _ hb2
          clear hxa hxb hga hgb hb2
          go_upto_region 12 with (fail)
          go_wp2_with fail
          refine (HPk.out _ _).mono ?_
          rintro e w' ⟨kc, rfl, hkc, rfl⟩
          go_upto_block 2 with (fail)
          go_cut [8, 9] from 54 to 78 (fun _ _ w3 => SymQ z mh mm (2 * i + 2) wc w3)
          case first =>
            obtain ⟨xa0, xa1, xa2, xa3, xa4, xa5, xa6, xa7, xa8, xaf⟩ := nineC HA.out
            obtain ⟨xb0, xb1, xb2, xb3, xb4, xb5, xb6, xb7, xb8, xbf⟩ := nineC HBx.out
            have hk4 : ∃ x : Int, (kc : Int) = x ∧ (x = 0 ∨ x = 1 ∨ x = 2 ∨ x = 3) := ⟨kc, rfl, by omega⟩
            obtain ⟨x, hx, hk4⟩ := hk4
            rw [hx]
            clear hx hkc
            have HJ' : Hid ((1 + (ka : Int)) = (1 + (kb : Int)) → Calls Tryz.prog 20 #[.pointer (some ⟨z, 0, none⟩), .agg #[.int .i64 6, .int .i64 (1 + (ka : Int)), .int .i64 1, .string ⟨#[110]⟩, .string ⟨#[]⟩, .int .i64 0, .slice none 0 0, .string ⟨#[]⟩, .int .i64 0], .agg #[.int .i64 6, .int .i64 (1 + (kb : Int)), .int .i64 1, .string ⟨#[110]⟩, .string ⟨#[]⟩, .int .i64 0, .slice none 0 0, .string ⟨#[]⟩, .int .i64 0]] wc (fun e w' => (∃ b, e = .returned (.tuple #[.bool b, .int .i64 2]) ) ∧ SymQ z mh mm (2 * i + 2) wc w')) := Lib.hid (fun e => by have := HJ.out; rw [if_pos e] at this; exact this)
            have HJn : Hid (¬ (1 + (ka : Int)) = (1 + (kb : Int)) → Calls Tryz.prog 20 #[.pointer (some ⟨z, 0, none⟩), .agg #[.int .i64 6, .int .i64 (1 + (ka : Int)), .int .i64 1, .string ⟨#[110]⟩, .string ⟨#[]⟩, .int .i64 0, .slice none 0 0, .string ⟨#[]⟩, .int .i64 0], .agg #[.int .i64 6, .int .i64 (1 + (kb : Int)), .int .i64 1, .string ⟨#[110]⟩, .string ⟨#[]⟩, .int .i64 0, .slice none 0 0, .string ⟨#[]⟩, .int .i64 0]] wc (fun e w' => (∃ b, e = .returned (.tuple #[.bool b, .int .i64 0])) ∧ SymQ z mh mm (2 * i + 2) wc w')) := Lib.hid (fun e => by have := HJ.out; rw [if_neg e] at this; exact this)
            rcases hk4 with rfl | rfl | rfl | rfl
            rotate_left
            · go_wp2_with fail
              refine HPt.out.mono ?_
              rintro e w3 ⟨⟨k1, b1, c1, rfl⟩, hq⟩
              go_wp2_with fail
              go_meet
              exact hq
            · go_wp2_with fail
              refine HE.out.mono ?_
              rintro e w3 ⟨⟨p1, n1, c1, rfl⟩, hq⟩
              go_wp2_with fail
              go_meet
              exact hq
            all_goals
              rcases HKq.out with he | he
              · have HJx := HJ'.out he
                have HSx : Hid (∀ W, Calls Tryz.prog 21 #[.agg #[.int .i64 6, .int .i64 (1 + (ka : Int)), .int .i64 1, .string ⟨#[110]⟩, .string ⟨#[]⟩, .int .i64 0, .slice none 0 0, .string ⟨#[]⟩, .int .i64 0], .agg #[.int .i64 6, .int .i64 (1 + (kb : Int)), .int .i64 1, .string ⟨#[110]⟩, .string ⟨#[]⟩, .int .i64 0, .slice none 0 0, .string ⟨#[]⟩, .int .i64 0]] W (fun e w' => e = .returned (.bool true) ∧ Below W.heap.size W w')) := Lib.hid (fun W => by have := HSm.out W; rw [decide_eq_true he] at this; exact this)
                clear he
                go_wp2_with fail
                refine HJx.mono ?_
                rintro e w3 ⟨⟨b1, rfl⟩, hq⟩
                clear xa0 xa1 xa2 xa3 xa4 xa5 xa6 xa7 xa8 xaf xb0 xb1 xb2 xb3 xb4 xb5 xb6 xb7 xb8 xbf HJx
                obtain ⟨hq1, hq2⟩ := HQ.out _ hq
                obtain ⟨xa0, xa1, xa2, xa3, xa4, xa5, xa6, xa7, xa8, xaf⟩ := nineC (hq1.trans HA.out)
                obtain ⟨xb0, xb1, xb2, xb3, xb4, xb5, xb6, xb7, xb8, xbf⟩ := nineC (hq2.trans HBx.out)
                have HQ3 := Lib.hid hq
                clear hq hq1 hq2
                go_wp2_with fail
                refine (HSx.out _).mono ?_
                rintro e w4 ⟨rfl, hb4⟩
                go_wp2_with fail
                go_meet
                obtain ⟨S', hS', hY', ht'⟩ := HQ3.out
                exact ⟨S', hS'.below hb4, hY', touch_trans ht' (touch_of hb4)⟩
              · have HJx := HJn.out he
                have HSx : Hid (∀ W, Calls Tryz.prog 21 #[.agg #[.int .i64 6, .int .i64 (1 + (ka : Int)), .int .i64 1, .string ⟨#[110]⟩, .string ⟨#[]⟩, .int .i64 0, .slice none 0 0, .string ⟨#[]⟩, .int .i64 0], .agg #[.int .i64 6, .int .i64 (1 + (kb : Int)), .int .i64 1, .string ⟨#[110]⟩, .string ⟨#[]⟩, .int .i64 0, .slice none 0 0, .string ⟨#[]⟩, .int .i64 0]] W (fun e w' => e = .returned (.bool false) ∧ Below W.heap.size W w')) := Lib.hid (fun W => by have := HSm.out W; rw [decide_eq_false he] at this; exact this)
                clear he
                go_wp2_with fail
                refine HJx.mono ?_
                rintro e w3 ⟨⟨b1, rfl⟩, hq⟩
                clear xa0 xa1 xa2 xa3 xa4 xa5 xa6 xa7 xa8 xaf xb0 xb1 xb2 xb3 xb4 xb5 xb6 xb7 xb8 xbf HJx
                obtain ⟨hq1, hq2⟩ := HQ.out _ hq
                obtain ⟨xa0, xa1, xa2, xa3, xa4, xa5, xa6, xa7, xa8, xaf⟩ := nineC (hq1.trans HA.out)
                obtain ⟨xb0, xb1, xb2, xb3, xb4, xb5, xb6, xb7, xb8, xbf⟩ := nineC (hq2.trans HBx.out)
                have HQ3 := Lib.hid hq
                clear hq hq1 hq2
                go_wp2_with fail
                refine (HSx.out _).mono ?_
                rintro e w4 ⟨rfl, hb4⟩
                go_wp2_with fail
                go_meet
                obtain ⟨S', hS', hY', ht'⟩ := HQ3.out
                exact ⟨S', hS'.below hb4, hY', touch_trans ht' (touch_of hb4)⟩
          case rest =>
            obtain ⟨S3, hS3, hY3, ht3⟩ := hcut
            have hz := HZ.out
            have hb3 := below_of_touch ht3 hz.1 hz.2.1 hz.2.2 (Nat.le_trans HBr.out.size HB2.out.size)
            have HB3 := Lib.hid (((HBr.out.trans (HB2.out.mono HBr.out.size)).trans hb3))
            have HS3 := Lib.hid hS3
            have HY3 := Lib.hid hY3
            have HOf : Hid (∀ (W' : World) (k : Nat), Below wc.heap.size wc W' → 1 ≤ k → k ≤ 4 → Calls Tryz.prog 22 #[.pointer (some ⟨z, 0, none⟩), .agg #[.int .i64 6, .int .i64 (k : Int), .int .i64 1, .string ⟨#[110]⟩, .string ⟨#[]⟩, .int .i64 0, .slice none 0 0, .string ⟨#[]⟩, .int .i64 0]] W' (SOfP S3 (k : Int) W')) := Lib.hid (fun W' k hW h1 h4 => ofP (k := (k : Int)) (HS3.out.below hW) HY3.out hIl (by omega) (by omega))
            have HHd : Hid (∀ (W' : World) (v : Value) (L : List Pr) (k m : Nat), RecAt idTL 9 W' W'.heap.size v (actL S3 L) → (actL S3 L).length ≤ 1000 → L.Perm ((keys S3.H).filter (fun p => decide (p.1 = pidI nmN (k : Int)))) → Calls Tryz.prog 23 #[v, .agg #[.int .i64 6, .int .i64 (m : Int), .int .i64 1, .string ⟨#[110]⟩, .string ⟨#[]⟩, .int .i64 0, .slice none 0 0, .string ⟨#[]⟩, .int .i64 0]] W' (fun e w' => e = .returned (.bool (actB S3 (pidI nmN (k : Int), pidI nmN (m : Int)))) ∧ Below W'.heap.size W' w')) := Lib.hid (fun W' v L k m hr hl hp => holdP (Nat.le_refl _) hr hl hp _)
            have HIl := Lib.hid hIl
            clear hS3 hY3 ht3 hb3 hz hIl HS2 HJ HPt HE HSm hP1 hP2 hZ2 HQ HKq HA HBx HGa hla hlb kd0 kd1 kd2 HCs HPk ngr nrg HG HB2 hka hkb hkc HS HY HO
            have H01 : Hid (SyM z mh mm S3 wc 4 (.int .i64 1) wc) := Lib.hid ⟨1, rfl, by omega, by omega, rfl, Below.refl _ _⟩
            go_wp2_with fail
            go_loopg [10] 4 (fun n kv wq => Hid (SyM z mh mm S3 wc n kv wq))
            case atStart => exact H01
            case round =>
              obtain ⟨k, rfl, hk1, hk5, hkn, hbq⟩ := hrel.out
              clear hrel H01
              by_cases hk4 : k ≤ 4
              · have r2 : (k : Int) ≤ 4 := by omega
                have HKn := Lib.hid hkn
                have HOfk := Lib.hid (fun W' hW => HOf.out W' k hW hk1 hk4)
                clear hkn
                go_wp2_with fail
                refine (HPi.out _ _).mono ?_
                rintro e wa ⟨rfl, hb⟩
                have hba := belowCC hbq hb
                clear hb
                go_wp2_with fail
                refine (HOfk.out _ hba).mono ?_
                rintro e wb ⟨v1, L1, rfl, hp1, hs1, hr1, hl1, hb1⟩
                obtain ⟨p1, c1, rfl, _, _⟩ := hr1.shape
                have HBb := Lib.hid (belowCC hba hb1)
                have HR1 := Lib.hid hr1
                have HBs1 := Lib.hid hba.size
                have HP1 := Lib.hid hp1
                have HL1 := Lib.hid hl1
                have HRw := Lib.hid (fun W' (hW : Below wb.heap.size wb W') => rowT (HR1.out.below hW))
                clear hp1 hs1 hr1 hl1 hb1 hba hbq
                have H02 : Hid (SyM z mh mm S3 wb 4 (.int .i64 1) wb) := Lib.hid ⟨1, rfl, by omega, by omega, rfl, Below.refl _ _⟩
                go_wp2_with fail
                go_loopg [12] 4 (fun n mv wq => Hid (SyM z mh mm S3 wb n mv wq))
                case atStart => exact H02
                case round =>
                  obtain ⟨m, rfl, hm1, hm5, hmn, hbm⟩ := hrel.out
                  clear hrel H02
                  by_cases hm4 : m ≤ 4
                  · have r3 : (m : Int) ≤ 4 := by omega
                    have HMn := Lib.hid hmn
                    have HOfm := Lib.hid (fun W' hW => HOf.out W' m hW hm1 hm4)
                    have HHa := Lib.hid (fun W' (hW : Below wb.heap.size wb W') => HHd.out W' _ L1 k m (HRw.out W' hW) HL1.out HP1.out)
                    have HHb := Lib.hid (fun W' v L hr hl hp => HHd.out W' v L m k hr hl hp)
                    rw [HY3.out.act] at HHb
                    by_cases hkm : k = m
                    · subst hkm
                      rw [HY3.out.self] at HHa HHb
                      clear hmn
                      go_wp2_with fail
                      refine (HPi.out _ _).mono ?_
                      rintro e w1 ⟨rfl, hb⟩
                      have h1 := belowCC hbm hb
                      clear hb
                      go_wp2_with fail
                      refine (HHa.out _ h1).mono ?_
                      rintro e w2 ⟨rfl, hb⟩
                      have h2 := belowCC h1 hb
                      clear hb
                      go_wp2_with fail
                      refine (HPi.out _ _).mono ?_
                      rintro e w3 ⟨rfl, hb⟩
                      have h3 := belowCC h2 hb
                      clear hb
                      go_wp2_with fail
                      refine (HOfm.out _ (belowCC HBb.out h3)).mono ?_
                      rintro e w4 ⟨v2, L2, rfl, hp2, hs2, hr2, hl2, hb⟩
                      obtain ⟨p2, c2, rfl, _, _⟩ := hr2.shape
                      have h4 := belowCC h3 hb
                      clear hb
                      go_wp2_with fail
                      refine (HPi.out _ _).mono ?_
                      rintro e w5 ⟨rfl, hb⟩
                      have h5 := belowCC h4 hb
                      have HHx := Lib.hid (HHb.out _ _ L2 (rowT (hr2.below hb)) hl2 hp2)
                      clear hb hr2 hl2 hp2 hs2
                      go_wp2_with fail
                      refine HHx.out.mono ?_
                      rintro e w6 ⟨rfl, hb⟩
                      have h6 := belowCC h5 hb
                      clear hb
                      go_wp2_with fail
                      refine (HPi.out _ _).mono ?_
                      rintro e w7 ⟨rfl, hb⟩
                      have h7 := belowCC h6 hb
                      clear hb
                      go_wp2_with fail
                      refine (HHa.out _ h7).mono ?_
                      rintro e w8 ⟨rfl, hb⟩
                      have h8 := belowCC h7 hb
                      clear hb
                      go_wp2_with fail
                      go_roundg (5 - (k + 1))
                      case measure => have := HMn.out; omega
                      case rel => exact Lib.hid ⟨k + 1, by go_num, by omega, by omega, rfl, h8⟩
                    · have q1 : ¬ ((k : Int) = (m : Int)) := by omega
                      generalize actB S3 (pidI nmN (k : Int), pidI nmN (m : Int)) = b at *
                      clear hmn
                      go_wp2_with fail
                      refine (HPi.out _ _).mono ?_
                      rintro e w1 ⟨rfl, hb⟩
                      have h1 := belowCC hbm hb
                      clear hb
                      go_wp2_with fail
                      refine (HHa.out _ h1).mono ?_
                      rintro e w2 ⟨rfl, hb⟩
                      have h2 := belowCC h1 hb
                      clear hb
                      go_wp2_with fail
                      refine (HPi.out _ _).mono ?_
                      rintro e w3 ⟨rfl, hb⟩
                      have h3 := belowCC h2 hb
                      clear hb
                      go_wp2_with fail
                      refine (HOfm.out _ (belowCC HBb.out h3)).mono ?_
                      rintro e w4 ⟨v2, L2, rfl, hp2, hs2, hr2, hl2, hb⟩
                      obtain ⟨p2, c2, rfl, _, _⟩ := hr2.shape
                      have h4 := belowCC h3 hb
                      clear hb
                      go_wp2_with fail
                      refine (HPi.out _ _).mono ?_
                      rintro e w5 ⟨rfl, hb⟩
                      have h5 := belowCC h4 hb
                      have HHx := Lib.hid (HHb.out _ _ L2 (rowT (hr2.below hb)) hl2 hp2)
                      clear hb hr2 hl2 hp2 hs2
                      go_wp2_with fail
                      refine HHx.out.mono ?_
                      rintro e w6 ⟨rfl, hb⟩
                      have h6 := belowCC h5 hb
                      clear hb
                      cases b
                      all_goals
                        go_wp2_with fail
                        go_roundg (5 - (m + 1))
                        case measure => have := HMn.out; omega
                        case rel => exact Lib.hid ⟨m + 1, by go_num, by omega, by omega, rfl, h6⟩
                  · have r3 : ¬ ((m : Int) ≤ 4) := by omega
                    have HBm := Lib.hid (belowCC HBb.out hbm)
                    have HBm2 := Lib.hid hbm
                    clear hmn hbm
                    go_wp2_with fail
                    refine (HPi.out _ _).mono ?_
                    rintro e w1 ⟨rfl, hb⟩
                    have h1 := belowCC HBm.out hb
                    have g1 := belowCC HBm2.out hb
                    clear hb
                    go_wp2_with fail
                    refine (HOfk.out _ h1).mono ?_
                    rintro e w2 ⟨v3, L3, rfl, hp3, hs3, hr3, hl3, hb⟩
                    obtain ⟨p3, c3, rfl, _, _⟩ := hr3.shape
                    have h2 := belowCC h1 hb
                    have g2 := belowCC g1 hb
                    have HSp := Lib.hid (spoilF (HR1.out.below g2) (Nat.le_trans HL1.out (by decide)))
                    have hlt1 : ∀ q, (Value.slice p1 (actL S3 L1).length c1).ownBlock = some q → wc.heap.size ≤ q ∧ q < w1.heap.size := fun q hq => ⟨Nat.le_trans HBs1.out (HR1.out.lt hq).1, Nat.lt_of_lt_of_le (HR1.out.lt hq).2 g1.size⟩
                    clear hb
                    go_wp2_with fail
                    refine HSp.out.mono ?_
                    rintro e w3 ⟨rfl, ht, hz3⟩
                    have h3 := h2.trans (ht.below (B := wc.heap.size) (fun q hq => (hlt1 q hq).1) h2.size)
                    have hr4 := hr3.same (w' := w3) (fun q hq => ht.block q (hr3.lt hq).2 (fun e => by have := (hlt1 q e).2; have := (hr3.lt hq).1; omega))
                    clear ht hr3
                    go_wp2_with fail
                    refine (HPi.out _ _).mono ?_
                    rintro e w4 ⟨rfl, hb⟩
                    have h4 := belowCC h3 hb
                    have hr5 := hr4.below hb
                    clear hb hr4
                    go_wp2_with fail
                    refine (HOfk.out _ h4).mono ?_
                    rintro e w5 ⟨v5, L5, rfl, hp5, hs5, hr6, hl5, hb⟩
                    obtain ⟨p5, c5, rfl, _, _⟩ := hr6.shape
                    have hLL := HY3.out.once hp3 hs3 hp5 hs5
                    have h5 := belowCC h4 hb
                    have HSa : Hid (Calls Tryz.prog 25 #[.slice p3 (actL S3 L3).length c3, .slice p5 (actL S3 L5).length c5] w5 (fun e w' => e = .returned (.bool true) ∧ Below w5.heap.size w5 w')) := Lib.hid (by
                      subst hLL
                      exact sameI (Nat.le_refl _) (Nat.le_refl _) (rowT (hr5.below hb)) (rowT hr6))
                    clear hb hr5 hr6 hLL hp3 hs3 hp5 hs5
                    go_wp2_with fail
                    refine HSa.out.mono ?_
                    rintro e w6 ⟨rfl, hb⟩
                    have h6 := belowCC h5 hb
                    clear hb
                    go_wp2_with fail
                    go_roundg (5 - (k + 1))
                    case measure => have := HKn.out; omega
                    case rel => exact Lib.hid ⟨k + 1, by go_num, by omega, by omega, rfl, h6⟩
              · have r2 : ¬ ((k : Int) ≤ 4) := by omega
                have HB9 := Lib.hid (HB3.out.trans (hbq.mono HB3.out.size))
                have HS9 := Lib.hid (HS3.out.below hbq)
                clear hbq hkn
                go_wp2_with fail
                go_roundg (l.length - (i + 1))
                case measure => have := HN.out; omega
                case rel => exact Lib.hid ⟨i + 1, S3, by go_num, by omega, rfl, HS9.out, by have := HY3.out; rw [show 2 * (i + 1) = 2 * i + 2 by omega]; exact this, HB9.out⟩
      · have r1 : ¬ ((i : Int) < (l.length : Int)) := by omega
        have HBe := Lib.hid hbw
        clear hbw hn hS hY
        go_wp2_with fail
        go_ret
        exact ⟨rfl, HBe.out⟩
end Go.Proofs.YtnakbepcalciiaaGreat.lk
