/- Several texts in one, one behind the other: LkQ. No condition beyond theirs. -/
import Derived.Test.YtnakbepcalciiaaGreatGs
/- Of: the active partners of a process, in order. Conditions: the object was made by New; the term lies in memory. -/
namespace Go.Proofs.YtnakbepcalciiaaGreat.lk
open Go.RowKit mem rec tm names pm
set_option linter.unusedVariables false
set_option linter.unusedSimpArgs false
set_option maxHeartbeats 4000000
set_option maxRecDepth 100000
/-- an identity as nine cells of a term -/
def idTL (x : Id) : List Value := [.int .i64 x.1, .int .i64 x.2.2.2, .int .i64 x.2.2.1, .string x.2.1, .string ⟨#[]⟩, .int .i64 0, .slice none 0 0, .string ⟨#[]⟩, .int .i64 0]
theorem idTL_len (x : Id) : (idTL x).length = 9 := rfl
theorem idTL_one (x : Id) : ∀ u ∈ idTL x, u.oneCell' = true := fun u hu => by
  simp only [idTL, List.mem_cons, List.mem_nil_iff, or_false] at hu
  rcases hu with rfl | rfl | rfl | rfl | rfl | rfl | rfl | rfl | rfl <;> rfl
theorem info30 : (Tryz.prog.info? 30).map (fun i => (i.zero, i.size, i.bytes)) = some (some (.agg #[.int .i64 0, .int .i64 0, .int .i64 0, .string ⟨#[]⟩, .string ⟨#[]⟩, .int .i64 0, .slice none 0 0, .string ⟨#[]⟩, .int .i64 0]), 9, 112) := by kernel_rfl
theorem el30 : ElTy 28 30 9 := elty_of Tryz.underlying28 info30 rfl (by decide) (by decide)
theorem items_of {w : World} {B : Nat} {v : Value} {l : List Id} (h : RecAt idTL 9 w B v l) : ItemsAt w B 1 v (l.map tmI) := by
  obtain ⟨p, c, rfl, h1, h2, h3⟩ := h
  refine ⟨p, c, by simp, by simpa using h1, h2, fun hn => ?_⟩
  obtain ⟨g, o, rfl, hg, hc⟩ := h3 (by simpa using hn)
  refine ⟨g, o, rfl, hg, fun j hj => ⟨nilV, ?_, none, 0, by simp [tmI_items, nilV], Nat.zero_le _⟩⟩
  have hj' : j < l.length := by simpa using hj
  have hh := hc j l[j] (List.getElem?_eq_getElem hj')
  have e : (l.map tmI)[j] = tmI l[j] := by simp
  rw [e, tmI_f]
  exact ⟨hh 0 _ rfl, hh 1 _ rfl, hh 2 _ rfl, hh 3 _ rfl, hh 4 _ rfl, hh 5 _ rfl, hh 6 _ rfl, hh 7 _ rfl, hh 8 _ rfl⟩
def actL (s : LkSt) (L : List Pr) : List Id := (L.filter (actB s)).map (·.2)
theorem actL_take {s : LkSt} {L : List Pr} {i : Nat} {p : Pr} (h : L[i]? = some p) : actL s (L.take (i + 1)) = actL s (L.take i) ++ (if actB s p then [p.2] else []) := by
  unfold actL
  rw [List.take_add_one, h, List.filter_append]
  by_cases hp : actB s p = true <;> simp [hp]
theorem actL_le (s : LkSt) (L : List Pr) : (actL s L).length ≤ L.length := by
  unfold actL
  rw [List.length_map]
  exact List.length_filter_le _ _
def OfQ (ok : Bool) (x : Id) (s : LkSt) (w : World) (e : Ending) (w' : World) : Prop :=
  ∃ v L, e = .returned v ∧ L.Perm (if ok then (keys s.H).filter (fun p => decide (p.1 = x)) else []) ∧ L.Pairwise (fun x y => cmP x y ≤ 0) ∧ RecOwn idTL 30 9 w' w.heap.size v (actL s L) ∧ Below w.heap.size w w'
def OfI (s : LkSt) (L : List Pr) (W : World) (base : Nat) (n : Nat) (out iv : Value) (wr : World) : Prop :=
  ∃ i : Nat, iv = .int .i64 i ∧ i ≤ L.length ∧ n = L.length - i ∧ RecOwn idTL 30 9 wr W.heap.size out (actL s (L.take i)) ∧ Below W.heap.size W wr
theorem of22 {n : Nat} {w : World} {z mh mm : Nat} {s : LkSt} (h : LkAt w z mh mm s) (hlen : s.H.length ≤ 100000000) (B : Nat) (va : Value) (ta : Tm (n + 1)) (hB : B ≤ w.heap.size) (ha : ItemsAt w B n va ta.items) (sa : 300 * (nodesT ta : Int) ≤ 1000000000000) :
    Calls Tryz.prog 22 #[.pointer (some ⟨z, 0, none⟩), aggV ta.f va] w (OfQ ((decide (ta.f.kind = 6) && validT ta) && locB s.node s.gen (idOf ta.f)) (idOf ta.f) s w) := by
  have HP := Lib.hid (fun W (hW : Below w.heap.size w W) => mine82 (h.below hW) hlen B va ta (Nat.le_trans hB hW.size) (ha.below hW hB) sa)
  have H0 := Lib.hid h
  have HLn := Lib.hid hlen
  obtain ⟨pa, ca, rfl, _, _⟩ := ha.shape
  clear ha sa hB h hlen
  generalize ((decide (ta.f.kind = 6) && validT ta) && locB s.node s.gen (idOf ta.f)) = ok at *
  generalize hx : idOf ta.f = x at *
  clear hx
  generalize ta.items.length = na at *
  generalize ta.f = fa at *
  have hA := nine_of (alloc_new w (cells9 fa (.slice pa na ca)))
  have hb1 := belowA (Below.refl w.heap.size w) (cells9 fa (.slice pa na ca)) (Nat.le_refl _)
  obtain ⟨ak, ai, ag, an, af, aa, ab, az⟩ := fa
  unfold aggV at *
  unfold cells9 at *
  dsimp only at *
  have HA := Lib.hid hA
  have HB1 := Lib.hid hb1
  clear hA hb1
  go_enter Tryz.func22, Tryz.ntmps22
  go_upto_region 1 with (fail)
  generalize (w.alloc (.cells #[.int .i64 ak, .int .i64 ai, .int .i64 ag, .string an, .string af, .int .i64 aa, .slice pa na ca, .string ab, .int .i64 az] 30)) = W1 at *
  obtain ⟨x0, x1', x2', x3', x4', x5', x6', x7', x8', xf⟩ := HA.out
  dsimp only at x0 x1' x2' x3' x4' x5' x6' x7' x8'
  go_wp2_with fail
  refine (HP.out _ HB1.out).mono ?_
  rintro e W2 ⟨v, L, rfl, hp, hs, hr, ho, hb2⟩
  clear x0 x1' x2' x3' x4' x5' x6' x7' x8' xf HP HA
  obtain ⟨pv, cv, rfl, _, hcm⟩ := hr.shape
  have hLl : L.length ≤ s.H.length := by
    have := hp.length_eq
    rw [this]
    split
    · exact Nat.le_trans (List.length_filter_le _ _) (by simp [keys])
    · exact Nat.zero_le _
  have HLL : Hid (L.length ≤ 100000000) := Lib.hid (Nat.le_trans hLl HLn.out)
  have hLL := HLL.out
  obtain ⟨⟨q1, q2, q3, q4⟩, hq⟩ : ∃ q : Id, (if ok then x else zId) = q := ⟨_, rfl⟩
  rw [hq]
  unfold idV
  dsimp only
  clear hq hLl hcm ho
  have HPp := Lib.hid hp
  have HPs := Lib.hid hs
  have hbw := HB1.out.trans (hb2.mono HB1.out.size)
  clear hp hs hb2
  go_upto_region 2 with (fail)
  have hb3 := belowA hbw (.cells #[.int .i64 q1, .string q2, .int .i64 q3, .int .i64 q4] 147) hbw.size
  have hr3 := hr.below (belowA (Below.refl W2.heap.size W2) (.cells #[.int .i64 q1, .string q2, .int .i64 q3, .int .i64 q4] 147) (Nat.le_refl _)) (Nat.le_refl _)
  have hsz : W2.heap.size ≤ (W2.alloc (.cells #[.int .i64 q1, .string q2, .int .i64 q3, .int .i64 q4] 147)).heap.size := by rw [World.size_alloc]; omega
  clear hr hbw
  generalize (W2.alloc (.cells #[.int .i64 q1, .string q2, .int .i64 q3, .int .i64 q4] 147)) = W3 at *
  have hr4 := hr3.more hsz
  clear hr3 hsz
  generalize W2.heap.size = zq at *
  have HS3 := Lib.hid (H0.out.below hb3)
  have HR := Lib.hid (fun W (hW : Below W3.heap.size W3 W) => hr4.below hW (Nat.le_refl _))
  have HAc := Lib.hid (fun W (hW : Below W3.heap.size W3 W) p => active81 (HS3.out.below hW) p)
  have HB3 := Lib.hid hb3
  have H00 : Hid (OfI s L W3 W3.heap.size L.length (.slice none 0 0) (.int .i64 0) W3) := Lib.hid ⟨0, rfl, Nat.zero_le _, rfl, RecOwn.nil _ _ _, Below.refl _ _⟩
  clear hb3 hr4
  go_wp2_with fail
  go_loopg [8, 20] L.length (fun n out iv wr => Hid (OfI s L W3 W3.heap.size n out iv wr))
  case atStart => exact H00
  case round =>
    obtain ⟨i, rfl, hi, hn, hown, hbw⟩ := hrel.out
    clear hrel H00
    by_cases hlt : i < L.length
    · have hat := List.getElem?_eq_getElem hlt
      obtain ⟨g, o, e1, hn0, hg, hc⟩ := (HR.out _ hbw).nth (by omega)
      have hc := hc i _ hat
      have HTk := Lib.hid (actL_take (s := s) hat)
      subst e1
      generalize L[i] = p at *
      obtain ⟨⟨x1, x2, x3, x4⟩, ⟨y1, y2, y3, y4⟩⟩ := p
      have e0 : wr.cell? ⟨g, o + i * 8, none⟩ = some (.int .i64 x1) := hc 0 _ rfl
      have e1 : wr.cell? ⟨g, o + i * 8 + 1, none⟩ = some (.string x2) := hc 1 _ rfl
      have e2 : wr.cell? ⟨g, o + i * 8 + 2, none⟩ = some (.int .i64 x3) := hc 2 _ rfl
      have e3 : wr.cell? ⟨g, o + i * 8 + 3, none⟩ = some (.int .i64 x4) := hc 3 _ rfl
      have e4 : wr.cell? ⟨g, o + i * 8 + 4, none⟩ = some (.int .i64 y1) := hc 4 _ rfl
      have e5 : wr.cell? ⟨g, o + i * 8 + 5, none⟩ = some (.string y2) := hc 5 _ rfl
      have e6 : wr.cell? ⟨g, o + i * 8 + 6, none⟩ = some (.int .i64 y3) := hc 6 _ rfl
      have e7 : wr.cell? ⟨g, o + i * 8 + 7, none⟩ = some (.int .i64 y4) := hc 7 _ rfl
      have HN := Lib.hid hn
      have HO := Lib.hid hown
      have r1 : (i : Int) < (L.length : Int) := by omega
      clear hc hn hown hn0 hat
      go_upto_region 6 with (fail)
      have hX := alloc_new wr (.cells #[.int .i64 x1, .string x2, .int .i64 x3, .int .i64 x4, .int .i64 y1, .string y2, .int .i64 y3, .int .i64 y4] 149)
      have hb4 := belowA (Below.refl wr.heap.size wr) (.cells #[.int .i64 x1, .string x2, .int .i64 x3, .int .i64 x4, .int .i64 y1, .string y2, .int .i64 y3, .int .i64 y4] 149) (Nat.le_refl _)
      have hl4 : wr.heap.size < (wr.alloc (.cells #[.int .i64 x1, .string x2, .int .i64 x3, .int .i64 x4, .int .i64 y1, .string y2, .int .i64 y3, .int .i64 y4] 149)).heap.size := by rw [World.size_alloc]; omega
      have HO4 := Lib.hid (HO.out.below hb4)
      have HB4 := Lib.hid (hbw.trans (hb4.mono hbw.size))
      clear e0 e1 e2 e3 e4 e5 e6 e7 HO hb4 hbw hg
      generalize (wr.alloc (.cells #[.int .i64 x1, .string x2, .int .i64 x3, .int .i64 x4, .int .i64 y1, .string y2, .int .i64 y3, .int .i64 y4] 149)) = W4 at *
      generalize wr.heap.size = zb at *
      have hAc := HAc.out _ HB4.out ((x1, x2, x3, x4), (y1, y2, y3, y4))
      unfold prV at hAc
      dsimp only at hAc
      obtain ⟨act, hact⟩ : ∃ b, actB s ((x1, x2, x3, x4), (y1, y2, y3, y4)) = b := ⟨_, rfl⟩
      rw [hact] at hAc
      have HTa := Lib.hid (HTk.out)
      have HAe := Lib.hid hact
      have HAx := Lib.hid hAc
      clear hact hAc HTk
      have HXa := Lib.hid (fun W (hW : Below W4.heap.size W4 W) => eight_cells ((hW.block _ hl4).trans hX))
      clear hX
      obtain ⟨r0, r1', r2, r3, r4, r5, r6, r7, rf⟩ := HXa.out _ (Below.refl _ _)
      go_wp2_with fail
      refine HAx.out.mono ?_
      rintro e W5 ⟨rfl, hb5⟩
      clear r0 r1' r2 r3 r4 r5 r6 r7 rf HAx
      cases act
      · go_wp2_with fail
        go_roundg (L.length - (i + 1))
        case measure => have := HN.out; omega
        case rel => exact Lib.hid ⟨i + 1, by go_num, by omega, rfl, by rw [HTa.out, HAe.out]; simpa using HO4.out.below hb5, HB4.out.trans (hb5.mono HB4.out.size)⟩
      · obtain ⟨r0, r1', r2, r3, r4, r5, r6, r7, rf⟩ := HXa.out _ hb5
        have HT83 := Lib.hid (fun W => term83 (y1, y2, y3, y4) W)
        unfold aggV idT idV nilV at HT83
        dsimp only at HT83
        have HO5 := Lib.hid (HO4.out.below hb5)
        have HB5 := Lib.hid (HB4.out.trans (hb5.mono HB4.out.size))
        go_wp2_with fail
        refine (HT83.out _).mono ?_
        rintro e W6 ⟨rfl, hb6⟩
        have hX7 := alloc_new W6 (.cells #[.int .i64 y1, .int .i64 y4, .int .i64 y3, .string y2, .string ⟨#[]⟩, .int .i64 0, .slice none 0 0, .string ⟨#[]⟩, .int .i64 0] 30)
        have hb7 := belowA hb6 (.cells #[.int .i64 y1, .int .i64 y4, .int .i64 y3, .string y2, .string ⟨#[]⟩, .int .i64 0, .slice none 0 0, .string ⟨#[]⟩, .int .i64 0] 30) hb6.size
        have hE : EncOK idTL 9 [((y1, y2, y3, y4) : Id)] := fun a _ => ⟨idTL_len a, idTL_one a⟩
        have HR7 := Lib.hid (RecAt.fresh (enc := idTL) (l := [((y1, y2, y3, y4) : Id)]) (c := 1) hE (by decide) hX7 (Nat.le_refl _) (by decide))
        have HO7 := Lib.hid (HO5.out.below hb7)
        have HB7 := Lib.hid (HB5.out.trans (hb7.mono HB5.out.size))
        have HLe : Hid ((actL s (L.take i)).length + 1 ≤ 1000000000) := Lib.hid (by have := actL_le s (L.take i); have := List.length_take_le i L; omega)
        have HSw := Lib.hid HB7.out.size
        clear r0 r1' r2 r3 r4 r5 r6 r7 rf hX7 hb7 hb6 hb5 HO5 HB5 HO4
        go_wp2_with (refine wpList_append_rec el30 rfl (.tmp 27) (.tmp 31) rfl rfl HO7.out HSw.out rfl HR7.out hE HLe.out ?_)
        intro v' W8 hA
        have HO8 := Lib.hid hA.own
        have HB8 := Lib.hid (hA.belowB HB7.out HB7.out.size (fun k hk => (HO7.out.lt hk).1))
        clear hA HR7 HO7 HB7
        go_wp2_with fail
        go_roundg (L.length - (i + 1))
        case measure => have := HN.out; omega
        case rel => exact Lib.hid ⟨i + 1, by go_num, by omega, rfl, by rw [HTa.out, HAe.out]; exact HO8.out, HB8.out⟩
    · obtain rfl : i = L.length := by omega
      have HO := Lib.hid hown
      have HBf := Lib.hid (HB3.out.trans (hbw.mono HB3.out.size))
      clear hown hbw hn
      go_wp2_with fail
      go_ret
      exact ⟨_, L, rfl, HPp.out, HPs.out, by have := HO.out; rw [List.take_length] at this; exact this.base (fun k hk => Nat.le_trans HB3.out.size (this.lt hk).1), HBf.out⟩
end Go.Proofs.YtnakbepcalciiaaGreat.lk
