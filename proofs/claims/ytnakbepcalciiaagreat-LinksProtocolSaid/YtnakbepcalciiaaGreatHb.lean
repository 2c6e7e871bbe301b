/- Several texts in one, one behind the other: LkZh. No condition beyond theirs. -/
import Derived.Test.YtnakbepcalciiaaGreatHa
import Derived.Deep.RegionHeld3
import Derived.Deep.RegionLaw
/- LinksProtocol. Conditions: the list lies in memory. -/
namespace Go.Proofs.YtnakbepcalciiaaGreat.lk
open Go.RowKit mem rec tm names pm
set_option linter.unusedVariables false
set_option linter.unusedSimpArgs false
set_option maxHeartbeats 4000000
set_option maxRecDepth 100000
theorem add_blk (a : Addr) (n : Nat) : (a.add n).block = a.block := by unfold Addr.add; split <;> rfl
theorem new_m : newB nmM 1 = true := by unfold newB; rw [v_m]; rfl
def Nums (w : World) (p : Option Addr) (zs : List Int) : Prop := ∀ i, (h : i < zs.length) → ∃ a, p = some a ∧ a.block < w.heap.size ∧ w.cell? (a.add i) = some (.int .i64 zs[i])
theorem Nums.below {w w' : World} {p : Option Addr} {zs : List Int} (h : Nums w p zs) (hb : Below w.heap.size w w') : Nums w' p zs := by
  intro i hi
  obtain ⟨a, ha, hl, hc⟩ := h i hi
  exact ⟨a, ha, Nat.lt_of_lt_of_le hl hb.size, by rw [hb.cell (by rw [add_blk]; exact hl)]; exact hc⟩
theorem pick17 (a : Int) (m : Nat) (hm : 0 < m) (hm2 : m ≤ 1000000) (w : World) : Calls Tryz.prog 17 #[.int .i64 a, .int .i64 m] w (fun e w' => ∃ k : Nat, e = .returned (.int .i64 k) ∧ k < m ∧ w = w') := by
  obtain ⟨r, hr⟩ : ∃ r, a.tmod (m : Int) = r := ⟨_, rfl⟩
  have h1 : -(m : Int) < r := by rw [← hr]; exact (by have := Int.tmod_lt_of_pos (-a) (b := (m : Int)) (by omega); rw [Int.neg_tmod] at this; omega)
  have h2 : r < (m : Int) := by rw [← hr]; exact Int.tmod_lt_of_pos _ (by omega)
  have hw : IntKind.i64.wrap r = r := IntWalk.i64_in _ (by omega)
  have hm0 : ((m : Int) == 0) = false := by have : ¬ (m : Int) = 0 := by omega
                                            simpa using this
  by_cases h0 : r < 0
  · obtain ⟨k, hk⟩ : ∃ k : Nat, r + (m : Int) = (k : Int) := ⟨(r + m).toNat, by omega⟩
    have hkm : k < m := by omega
    have q1 : decide (r < 0) = true := decide_eq_true h0
    have h1m : (1 : Int) ≤ (m : Int) := by omega
    go_enter Tryz.func17, Tryz.ntmps17
    go_wp2_with fail
    go_ret
    exact ⟨k, by rfl, hkm, rfl⟩
  · obtain ⟨k, hk⟩ : ∃ k : Nat, r = (k : Int) := ⟨r.toNat, by omega⟩
    have hkm : k < m := by omega
    have q1 : decide (r < 0) = false := decide_eq_false h0
    have h1m : (1 : Int) ≤ (m : Int) := by omega
    subst hk
    have q2 : ¬ ((k : Int) < 0) := by omega
    go_enter Tryz.func17, Tryz.ntmps17
    go_wp2_with fail
    go_ret
    exact ⟨k, by rfl, hkm, rfl⟩
theorem pick17' (a : Int) (w : World) : Calls Tryz.prog 17 #[.int .i64 a, .int .i64 8] w (fun e w' => ∃ k : Nat, e = .returned (.int .i64 k) ∧ k < 8 ∧ w = w') := pick17 a 8 (by decide) (by decide) w
theorem came_ok {nm : ByteArray} {p q : Id} {S : LkSt} (h : SOk nm p q S) : SOk nm p q (cameS S p q) := by
  unfold cameS
  split
  · exact h
  · exact h.put 0 S.last
theorem came_act {p q : Id} {S : LkSt} (h : good (pFind S.H (p, q))) : actB (cameS S p q) (p, q) = true := by
  rw [act_iff]
  unfold cameS
  rcases h with h | h
  · rw [h]
    rw [if_neg (by simp)]
    show pFind (pPut S.H (p, q) 0) (p, q) = some 0
    rw [find_put, if_pos rfl]
  · rw [h]
    exact h
theorem PI.ends {S0 S1 : LkSt} {n : Nat} (h : PI S0 S1 [] [] n) : (∃ r, actB S0 (pA, pX) = r ∧ actB S1 (pX, pA) = r) ∧ actB (cameS S0 pA pX) (pA, pX) = true ∧ actB (cameS S1 pX pA) (pX, pA) = true ∧ SOk nmN pA pX S0 ∧ SOk nmM pX pA S1 := by
  obtain ⟨h1, h2, h3⟩ := pinv_end h.h.inv rfl rfl
  refine ⟨⟨_, rfl, ?_⟩, came_act h1, came_act h2, h.h.s, h.h.t⟩
  rw [Bool.eq_iff_iff, act_iff, act_iff]
  exact h3.symm
theorem ofG {nm : ByteArray} {p q : Id} {w : World} {z mh mm : Nat} {S : LkSt} (h : LkAt w z mh mm S) (hs : SOk nm p q S) (hok : okI 6 p = true) (hl : locB nm 1 p = true) : Calls Tryz.prog 22 #[.pointer (some ⟨z, 0, none⟩), idA p] w (fun e w' => ∃ v l, e = .returned v ∧ RecAt idTL 9 w' w'.heap.size v l ∧ memI q l = actB S (p, q) ∧ l.length ≤ 1 ∧ Below w.heap.size w w') := by
  have hq := ofI h (Nat.le_trans hs.hlen (by decide)) p
  rw [hs.node, hs.gen, hok, hl] at hq
  refine hq.mono ?_
  rintro e w' ⟨v, L, rfl, hp, _, hr, hb⟩
  obtain ⟨h1, h2⟩ := hs.of hp
  exact ⟨v, _, rfl, hr.row (fun a _ => ⟨idTL_len a, idTL_one a⟩), h1, h2, hb⟩
theorem holdG {w : World} {v : Value} {l : List Id} {x : Id} {r : Bool} (h : RecAt idTL 9 w w.heap.size v l) (hm : memI x l = r) (hl : l.length ≤ 1) : Calls Tryz.prog 23 #[v, idA x] w (fun e w' => e = .returned (.bool r) ∧ Below w.heap.size w w') := by
  rw [← hm]
  exact holds23 (Nat.le_refl _) h (Nat.le_trans hl (by decide)) x
theorem lN1 : locB nmN 1 pA = true := by decide
theorem lM1 : locB nmM 1 pX = true := by decide
theorem idA_A : idA pA = .agg #[.int .i64 6, .int .i64 1, .int .i64 1, .string ⟨#[110]⟩, .string ⟨#[]⟩, .int .i64 0, .slice none 0 0, .string ⟨#[]⟩, .int .i64 0] := rfl
theorem idA_X : idA pX = .agg #[.int .i64 6, .int .i64 1, .int .i64 1, .string ⟨#[109]⟩, .string ⟨#[]⟩, .int .i64 0, .slice none 0 0, .string ⟨#[]⟩, .int .i64 0] := rfl
theorem ProtE.drew {w : World} {base b z0 h0 m0 z1 h1 m1 : Nat} {S0 S1 : LkSt} {q0 q1 : List Sg} (h : ProtE w base b z0 h0 m0 z1 h1 m1 S0 S1 q0 q1) : ProtE w.drew base b z0 h0 m0 z1 h1 m1 S0 S1 q0 q1 := by obtain ⟨v0, v1, h⟩ := h; exact ⟨v0, v1, h.below (belowD (Below.refl _ _))⟩
def DI (base b z0 h0 m0 z1 h1 m1 N : Nat) (W7 : World) (n : Nat) (wr : World) : Prop := ∃ S0 S1 q0 q1, ProtE wr base b z0 h0 m0 z1 h1 m1 S0 S1 q0 q1 ∧ PI S0 S1 q0 q1 N ∧ n = weigh q0 + weigh q1 ∧ Below b W7 wr
theorem lawProtocol (W : World) (p : Option Addr) (l : List Int) (c : Nat) (hs : Nums W p l) (hl : l.length ≤ maxLen) : Calls Tryz.prog 6 #[.slice p l.length c] W (fun e w' => e = .returned (.bool true) ∧ Below W.heap.size W w') := by
  have HSh := Lib.hid (fun w => shown14 w)
  have HP := Lib.hid (fun w nm n => pid16 nm n w)
  have HN := Lib.hid (fun nm w => new15 nm 1 w)
  unfold idA pidI at HP
  dsimp only at HP
  have HNs := Lib.hid hs
  by_cases h3 : (300 : Int) < (l.length : Int)
  · clear HP HN
    go_enter Tryz.func6, Tryz.ntmps6
    go_wp2_with fail
    refine (HSh.out _).mono ?_
    rintro e w1 ⟨rfl, hb1⟩
    go_wp2_with fail
    go_ret
    exact ⟨rfl, hb1⟩
  · go_enter Tryz.func6, Tryz.ntmps6
    go_wp2_with fail
    refine (HSh.out _).mono ?_
    rintro e w1 ⟨rfl, hb1⟩
    have HB1 := Lib.hid hb1
    clear hb1
    go_wp2_with fail
    refine (HP.out _ _ _).mono ?_
    rintro e w2 ⟨rfl, hb2⟩
    go_wp2_with fail
    refine (HP.out _ _ _).mono ?_
    rintro e w3 ⟨rfl, hb3⟩
    go_upto_region 6 with (fail)
    have hG := alloc_new w3 (.cells #[.pointer none, .pointer none, .int .i64 6, .int .i64 1, .int .i64 1, .string ⟨#[110]⟩, .string ⟨#[]⟩, .int .i64 0, .slice none 0 0, .string ⟨#[]⟩, .int .i64 0, .int .i64 6, .int .i64 1, .int .i64 1, .string ⟨#[109]⟩, .string ⟨#[]⟩, .int .i64 0, .slice none 0 0, .string ⟨#[]⟩, .int .i64 0, .slice none 0 0, .slice none 0 0] 71)
    have hba := belowA (Below.refl w3.heap.size w3) (.cells #[.pointer none, .pointer none, .int .i64 6, .int .i64 1, .int .i64 1, .string ⟨#[110]⟩, .string ⟨#[]⟩, .int .i64 0, .slice none 0 0, .string ⟨#[]⟩, .int .i64 0, .int .i64 6, .int .i64 1, .int .i64 1, .string ⟨#[109]⟩, .string ⟨#[]⟩, .int .i64 0, .slice none 0 0, .string ⟨#[]⟩, .int .i64 0, .slice none 0 0, .slice none 0 0] 71) (Nat.le_refl _)
    have hlt : w3.heap.size < (w3.alloc (.cells #[.pointer none, .pointer none, .int .i64 6, .int .i64 1, .int .i64 1, .string ⟨#[110]⟩, .string ⟨#[]⟩, .int .i64 0, .slice none 0 0, .string ⟨#[]⟩, .int .i64 0, .int .i64 6, .int .i64 1, .int .i64 1, .string ⟨#[109]⟩, .string ⟨#[]⟩, .int .i64 0, .slice none 0 0, .string ⟨#[]⟩, .int .i64 0, .slice none 0 0, .slice none 0 0] 71)).heap.size := by rw [World.size_alloc]; omega
    have hb4 := HB1.out.trans ((hb2.trans ((hb3.trans (hba.mono hb3.size)).mono hb2.size)).mono HB1.out.size)
    have hWb : W.heap.size ≤ w3.heap.size := Nat.le_trans HB1.out.size (Nat.le_trans hb2.size hb3.size)
    clear hb2 hb3 hba HB1 HP HSh
    generalize (w3.alloc (.cells #[.pointer none, .pointer none, .int .i64 6, .int .i64 1, .int .i64 1, .string ⟨#[110]⟩, .string ⟨#[]⟩, .int .i64 0, .slice none 0 0, .string ⟨#[]⟩, .int .i64 0, .int .i64 6, .int .i64 1, .int .i64 1, .string ⟨#[109]⟩, .string ⟨#[]⟩, .int .i64 0, .slice none 0 0, .string ⟨#[]⟩, .int .i64 0, .slice none 0 0, .slice none 0 0] 71)) = W4 at *
    generalize w3.heap.size = b at *
    have HB4 := Lib.hid hb4
    have HG4 := Lib.hid hG
    have HL4 := Lib.hid (And.intro hlt hWb)
    clear hb4 hG hlt hWb
    go_wp2_with fail
    refine (HN.out _ _).mono ?_
    rintro e W5 ⟨hb5, ⟨hn, _⟩ | ⟨_, z0, h0, m0, rfl, hS0, hz1, hz2, hz3⟩⟩
    · exact absurd hn (by rw [show newB ⟨#[110]⟩ 1 = newB nmN 1 from rfl, new_n]; decide)
    have HS0 : Hid (LkAt W5 z0 h0 m0 ⟨nmN, 1, 0, [], []⟩) := Lib.hid hS0
    have HB5 := Lib.hid hb5
    have HZ0 := Lib.hid (And.intro hz1 (And.intro hz2 hz3))
    clear hS0 hb5 hz1 hz2 hz3
    go_wp2_with fail
    refine (HN.out _ _).mono ?_
    rintro e W6 ⟨hb6, ⟨hn, _⟩ | ⟨_, z1, h1, m1, rfl, hS1, hz1, hz2, hz3⟩⟩
    · exact absurd hn (by rw [show newB ⟨#[109]⟩ 1 = newB nmM 1 from rfl, new_m]; decide)
    have HS1 : Hid (LkAt W6 z1 h1 m1 ⟨nmM, 1, 0, [], []⟩) := Lib.hid hS1
    have HS0' := Lib.hid (HS0.out.below hb6)
    have HZ1 := Lib.hid (And.intro hz1 (And.intro hz2 hz3))
    have HG6 := Lib.hid ((hb6.block _ (Nat.lt_of_lt_of_le HL4.out.1 HB5.out.size)).trans ((HB5.out.block _ HL4.out.1).trans HG4.out))
    have HB6 := Lib.hid (HB4.out.trans ((HB5.out.trans (hb6.mono HB5.out.size)).mono HB4.out.size))
    have HZ2 : Hid (b < z0 ∧ b < h0 ∧ b < m0 ∧ z0 < W5.heap.size ∧ h0 < W5.heap.size ∧ m0 < W5.heap.size) := Lib.hid (by have := HS0.out.zlt; have := HS0.out.hlt; have := HS0.out.mlt; have := HL4.out.1; have := HZ0.out; omega)
    have HZ3 : Hid (z1 < W6.heap.size ∧ h1 < W6.heap.size ∧ m1 < W6.heap.size) := Lib.hid (by have := HS1.out.zlt; have := HS1.out.hlt; have := HS1.out.mlt; omega)
    clear hS1 hz1 hz2 hz3 hb6 HS0 HN HB5 HG4 HB4 HZ0
    obtain ⟨k0_, k1_, k2_, k3_, k4_, k5_, k6_, k7_, k8_, k9_, k10_, k11_, k12_, k13_, k14_, k15_, k16_, k17_, k18_, k19_, k20_, k21_, mf⟩ := cells22 HG6.out
    go_upto_region 11 with (fail)
    generalize hW7 : ((W6.setCell ⟨b, 0, none⟩ (.pointer (some ⟨z0, 0, none⟩))).setCell ⟨b, 1, none⟩ (.pointer (some ⟨z1, 0, none⟩))) = W7
    have hq : ∀ j, j ≠ b → W7.heap[j]? = W6.heap[j]? := fun j e => by rw [← hW7, Below.heap_setCell _ _ _ _ e, Below.heap_setCell _ _ _ _ e]
    have hs7 : W7.heap.size = W6.heap.size := by rw [← hW7]; simp [World.setCell]
    have hA : ProtAt W7 W7.heap.size b z0 h0 m0 z1 h1 m1 (.slice none 0 0) (.slice none 0 0) ⟨nmN, 1, 0, [], []⟩ ⟨nmM, 1, 0, [], []⟩ [] [] := by
      have hz := HZ2.out; have hz1 := HZ1.out; have hz3 := HZ3.out
      refine ⟨?_, HS0'.out.same (hq _ (by omega)) (hq _ (by omega)) (hq _ (by omega)), HS1.out.same (hq _ (by omega)) (hq _ (by omega)) (hq _ (by omega)), QAt.nil _ _, QAt.nil _ _, fun k hk => by simp [Value.ownBlock] at hk, ⟨hz.1, hz.2.1, hz.2.2.1⟩, by omega, by omega⟩
      rw [← hW7]
      exact heap_setCell_same _ _ 1 _ _ _ (heap_setCell_same _ _ 0 _ _ _ HG6.out)
    have HB7 : Hid (Below W.heap.size W W7) := Lib.hid (by rw [← hW7]; exact (HB6.out.setCell HL4.out.2 _).setCell HL4.out.2 _)
    have hS : ∀ (nm : ByteArray) (x y : Id), SOk nm x y ⟨nm, 1, 0, [], []⟩ := fun nm x y => ⟨rfl, rfl, List.nodup_nil, fun k hk => by simp [keys] at hk⟩
    have HLP : Hid (LP W7 W7.heap.size b z0 h0 m0 z1 h1 m1 0) := Lib.hid ⟨_, _, _, _, ⟨_, _, hA⟩, ⟨⟨hS _ _ _, hS _ _ _, pinv_start 0 0 (by decide) (by decide), Nat.le_refl _, by decide, by decide⟩⟩⟩
    have HWb := Lib.hid HL4.out.2
    clear hW7 hq hs7 hA hS HZ1 HZ2 HZ3 HS0' HS1 HG6 HL4 HB6 k0_ k1_ k2_ k3_ k4_ k5_ k6_ k7_ k8_ k9_ k10_ k11_ k12_ k13_ k14_ k15_ k16_ k17_ k18_ k19_ k20_ k21_ mf
    generalize hbase : W7.heap.size = base at HLP
    have HBase := Lib.hid hbase
    clear hbase
    have H00 : Hid (∃ i : Nat, Value.int .i64 0 = .int .i64 i ∧ i ≤ l.length ∧ l.length = l.length - i ∧ LP W7 base b z0 h0 m0 z1 h1 m1 i ∧ Below b W7 W7) := Lib.hid ⟨0, rfl, Nat.zero_le _, rfl, HLP.out, Below.refl _ _⟩
    go_wp2_with fail
    go_loopg [8] l.length (fun n iv wr => Hid (∃ i : Nat, iv = .int .i64 i ∧ i ≤ l.length ∧ n = l.length - i ∧ LP wr base b z0 h0 m0 z1 h1 m1 i ∧ Below b W7 wr))
    case atStart => exact H00
    case round =>
      obtain ⟨i, rfl, hi, hn, hlp, hbw⟩ := hrel.out
      have hbs : base ≤ wr.heap.size := by rw [← HBase.out]; exact hbw.size
      clear hrel H00
      by_cases hlt : i < l.length
      · have r1 : (i : Int) < (l.length : Int) := by omega
        obtain ⟨a, e1, ha, hc⟩ := HNs.out.below (HB7.out.trans (hbw.mono HWb.out)) i hlt
        subst e1
        have HBs := Lib.hid hbs
        have HLp := Lib.hid hlp
        have HBw := Lib.hid hbw
        have HN := Lib.hid hn
        clear hbs hlp hbw hn
        generalize l[i] = z at *
        have HN7 : Hid (i ≤ 1000) := Lib.hid (by omega)
        go_upto_region 15 with (fail)
        refine (pick17' z _).mono ?_
        rintro e w' ⟨k, rfl, hk, rfl⟩
        have hk8 : ∃ x : Int, (k : Int) = x ∧ (x = 0 ∨ x = 1 ∨ x = 2 ∨ x = 3 ∨ x = 4 ∨ x = 5 ∨ x = 6 ∨ x = 7) := ⟨k, rfl, by omega⟩
        obtain ⟨x, hx, hk8⟩ := hk8
        rw [hx]
        clear hx hk
        rcases hk8 with rfl | rfl | rfl | rfl | rfl | rfl | rfl | rfl
        · obtain ⟨S0, S1, q0, q1, hE, hP⟩ := HLp.out
          have HC := Lib.hid (pass0 hE hP HBs.out HN7.out)
          clear hE hP
          go_wp2_with fail
          refine HC.out.mono ?_
          rintro e w2 ⟨rfl, hb2, S0', S1', q0', q1', hE2, hP2, _⟩
          have HE := Lib.hid (show LP w2 base b z0 h0 m0 z1 h1 m1 (i + 1) from ⟨_, _, _, _, hE2, ⟨hP2.h.s, hP2.h.t, hP2.h.inv, by have := hP2.h.len; omega, by have := hP2.h.ls; omega, by have := hP2.h.lt; omega⟩⟩)
          have HB2 := Lib.hid (HBw.out.trans hb2)
          clear hE2 hP2 hb2 HC
          go_wp2_with fail
          go_roundg (l.length - (i + 1))
          case measure => have := HN.out; omega
          case rel => exact Lib.hid ⟨i + 1, by go_num, by omega, rfl, HE.out, HB2.out⟩
        · obtain ⟨S0, S1, q0, q1, hE, hP⟩ := HLp.out
          have HC := Lib.hid (pass1 hE hP HBs.out HN7.out)
          clear hE hP
          go_wp2_with fail
          refine HC.out.mono ?_
          rintro e w2 ⟨rfl, hb2, S0', S1', q0', q1', hE2, hP2, _⟩
          have HE := Lib.hid (show LP w2 base b z0 h0 m0 z1 h1 m1 (i + 1) from ⟨_, _, _, _, hE2, ⟨hP2.h.s, hP2.h.t, hP2.h.inv, by have := hP2.h.len; omega, by have := hP2.h.ls; omega, by have := hP2.h.lt; omega⟩⟩)
          have HB2 := Lib.hid (HBw.out.trans hb2)
          clear hE2 hP2 hb2 HC
          go_wp2_with fail
          go_roundg (l.length - (i + 1))
          case measure => have := HN.out; omega
          case rel => exact Lib.hid ⟨i + 1, by go_num, by omega, rfl, HE.out, HB2.out⟩
        · obtain ⟨S0, S1, q0, q1, hE, hP⟩ := HLp.out
          have HC := Lib.hid (pass0 hE hP HBs.out HN7.out)
          clear hE hP
          go_wp2_with fail
          refine HC.out.mono ?_
          rintro e w2 ⟨rfl, hb2, S0', S1', q0', q1', hE2, hP2, _⟩
          have HE := Lib.hid (show LP w2 base b z0 h0 m0 z1 h1 m1 (i + 1) from ⟨_, _, _, _, hE2, ⟨hP2.h.s, hP2.h.t, hP2.h.inv, by have := hP2.h.len; omega, by have := hP2.h.ls; omega, by have := hP2.h.lt; omega⟩⟩)
          have HB2 := Lib.hid (HBw.out.trans hb2)
          clear hE2 hP2 hb2 HC
          go_wp2_with fail
          go_roundg (l.length - (i + 1))
          case measure => have := HN.out; omega
          case rel => exact Lib.hid ⟨i + 1, by go_num, by omega, rfl, HE.out, HB2.out⟩
        · obtain ⟨S0, S1, q0, q1, hE, hP⟩ := HLp.out
          have HC := Lib.hid (pass1 hE hP HBs.out HN7.out)
          clear hE hP
          go_wp2_with fail
          refine HC.out.mono ?_
          rintro e w2 ⟨rfl, hb2, S0', S1', q0', q1', hE2, hP2, _⟩
          have HE := Lib.hid (show LP w2 base b z0 h0 m0 z1 h1 m1 (i + 1) from ⟨_, _, _, _, hE2, ⟨hP2.h.s, hP2.h.t, hP2.h.inv, by have := hP2.h.len; omega, by have := hP2.h.ls; omega, by have := hP2.h.lt; omega⟩⟩)
          have HB2 := Lib.hid (HBw.out.trans hb2)
          clear hE2 hP2 hb2 HC
          go_wp2_with fail
          go_roundg (l.length - (i + 1))
          case measure => have := HN.out; omega
          case rel => exact Lib.hid ⟨i + 1, by go_num, by omega, rfl, HE.out, HB2.out⟩
        · have HC := Lib.hid (act0 HLp.out HBs.out HN7.out true)
          go_wp2_with fail
          refine HC.out.mono ?_
          rintro e w2 ⟨rfl, hb2, hE2⟩
          have HE := Lib.hid hE2
          have HB2 := Lib.hid (HBw.out.trans hb2)
          clear hE2 hb2 HC
          go_wp2_with fail
          go_roundg (l.length - (i + 1))
          case measure => have := HN.out; omega
          case rel => exact Lib.hid ⟨i + 1, by go_num, by omega, rfl, HE.out, HB2.out⟩
        · have HC := Lib.hid (act1 HLp.out HBs.out HN7.out true)
          go_wp2_with fail
          refine HC.out.mono ?_
          rintro e w2 ⟨rfl, hb2, hE2⟩
          have HE := Lib.hid hE2
          have HB2 := Lib.hid (HBw.out.trans hb2)
          clear hE2 hb2 HC
          go_wp2_with fail
          go_roundg (l.length - (i + 1))
          case measure => have := HN.out; omega
          case rel => exact Lib.hid ⟨i + 1, by go_num, by omega, rfl, HE.out, HB2.out⟩
        · have HC := Lib.hid (act0 HLp.out HBs.out HN7.out false)
          go_wp2_with fail
          refine HC.out.mono ?_
          rintro e w2 ⟨rfl, hb2, hE2⟩
          have HE := Lib.hid hE2
          have HB2 := Lib.hid (HBw.out.trans hb2)
          clear hE2 hb2 HC
          go_wp2_with fail
          go_roundg (l.length - (i + 1))
          case measure => have := HN.out; omega
          case rel => exact Lib.hid ⟨i + 1, by go_num, by omega, rfl, HE.out, HB2.out⟩
        · have HC := Lib.hid (act1 HLp.out HBs.out HN7.out false)
          go_wp2_with fail
          refine HC.out.mono ?_
          rintro e w2 ⟨rfl, hb2, hE2⟩
          have HE := Lib.hid hE2
          have HB2 := Lib.hid (HBw.out.trans hb2)
          clear hE2 hb2 HC
          go_wp2_with fail
          go_roundg (l.length - (i + 1))
          case measure => have := HN.out; omega
          case rel => exact Lib.hid ⟨i + 1, by go_num, by omega, rfl, HE.out, HB2.out⟩

      · obtain rfl : i = l.length := by omega
        obtain ⟨S0, S1, q0, q1, hE, hP⟩ := hlp
        have HNl : Hid (l.length ≤ 1000) := Lib.hid (by omega)
        generalize l.length = N at *
        have H00 : Hid (DI base b z0 h0 m0 z1 h1 m1 N W7 (weigh q0 + weigh q1) wr) := Lib.hid ⟨S0, S1, q0, q1, hE, hP, rfl, hbw⟩
        generalize weigh q0 + weigh q1 = n0 at *
        have r1 : ¬ ((N : Int) < (N : Int)) := by omega
        clear hE hP hbw hn S0 S1 q0 q1 hlt hbs
        go_wp2_with fail
        go_loopg [] n0 (fun n wr => Hid (DI base b z0 h0 m0 z1 h1 m1 N W7 n wr))
        case atStart => exact H00
        case round =>
          obtain ⟨S0, S1, q0, q1, hE, hP, hn, hbw⟩ := hrel.out
          have hbs : base ≤ wr.heap.size := by rw [← HBase.out]; exact hbw.size
          have hle := hP.h.len
          obtain ⟨v0, v1, hA⟩ := id hE
          obtain ⟨ao0, cap0, rfl, _, _⟩ := hA.w0.shape
          obtain ⟨ao1, cap1, rfl, _, _⟩ := hA.w1.shape
          have hD := hA.below (belowD (Below.refl _ _))
          obtain ⟨k0_, k1_, k2_, k3_, k4_, k5_, k6_, k7_, k8_, k9_, k10_, k11_, k12_, k13_, k14_, k15_, k16_, k17_, k18_, k19_, k20_, k21_, mf⟩ := cells22 hD.blk
          have r2 : (q0.length : Int) + (q1.length : Int) ≤ 1000 := by have := HNl.out; omega
          have hwr : IntKind.i64.wrap ((q0.length : Int) + (q1.length : Int)) = (q0.length : Int) + (q1.length : Int) := IntWalk.i64_in _ (by omega)
          have HE := Lib.hid hE
          have HP := Lib.hid hP
          have HD := Lib.hid hD
          have HBs := Lib.hid hbs
          have HBw := Lib.hid hbw
          have HN := Lib.hid hn
          clear hE hP hA hD hbs hbw hn hrel hle H00
          by_cases hne : 0 < (q0.length : Int) + (q1.length : Int)
          · go_upto_region 17 with (fail)
            go_still (by kernel_rfl)
            all_goals
              clear k0_ k1_ k2_ k3_ k4_ k5_ k6_ k7_ k8_ k9_ k10_ k11_ k12_ k13_ k14_ k15_ k16_ k17_ k18_ k19_ k20_ k21_ mf
              have HC := Lib.hid (pass0 (ProtE.drew HE.out) HP.out (Nat.le_trans HBs.out (Nat.le_refl _)) HNl.out)
              go_wp2_with fail
              refine HC.out.mono ?_
              rintro e w2 ⟨rfl, hb2, S0', S1', q0', q1', hE2, hP2, hor⟩
              have HE2 := Lib.hid hE2
              have HP2 := Lib.hid hP2
              have HO2 := Lib.hid hor
              have HB2 := Lib.hid (HBw.out.trans ((belowD (Below.refl b wr)).trans hb2))
              have HBs2 : Hid (base ≤ w2.heap.size) := Lib.hid (Nat.le_trans HBs.out hb2.size)
              clear hE2 hP2 hb2 hor HC
              have HC := Lib.hid (pass1 HE2.out HP2.out HBs2.out HNl.out)
              go_wp2_with fail
              refine HC.out.mono ?_
              rintro e w3 ⟨rfl, hb3, S2, S3, q2, q3, hE3, hP3, hor⟩
              have HE3 := Lib.hid hE3
              have HP3 := Lib.hid hP3
              have HO3 := Lib.hid hor
              have HB3 := Lib.hid (HB2.out.trans hb3)
              clear hE3 hP3 hb3 hor HC
              go_wp2_with fail
              go_roundg (weigh q2 + weigh q3)
              case measure =>
                have h2 := HO2.out
                have h3 := HO3.out
                have hn := HN.out
                rcases h2 with h2 | ⟨rfl, rfl, rfl⟩
                · rcases h3 with h3 | ⟨_, rfl, rfl⟩ <;> omega
                · rcases h3 with h3 | ⟨rfl, rfl, rfl⟩
                  · omega
                  · simp at hne
              case rel => exact Lib.hid ⟨_, _, _, _, HE3.out, HP3.out, rfl, HB3.out⟩
          · have h0_ : q0 = [] := List.length_eq_zero_iff.1 (by omega)
            have h1_ : q1 = [] := List.length_eq_zero_iff.1 (by omega)
            have HQ0 := Lib.hid (And.intro h0_ h1_)
            clear h0_ h1_
            go_upto_region 17 with (fail)
            go_still (by kernel_rfl)
            go_upto_region 20 with (fail)
            generalize hW8 : ({ heap := wr.heap, tape := wr.tape, drawn := wr.drawn + 1, os := wr.os, output := wr.output } : World) = W8
            have HE8 : Hid (ProtE W8 base b z0 h0 m0 z1 h1 m1 S0 S1 [] []) := Lib.hid (by rw [← hW8]; have := HE.out.drew; rw [HQ0.out.1, HQ0.out.2] at this; exact this)
            have HB8 : Hid (Below W.heap.size W W8) := Lib.hid (by rw [← hW8]; exact HB7.out.trans ((belowD HBw.out).mono HWb.out))
            have hP8 := HP.out
            rw [HQ0.out.1, HQ0.out.2] at hP8
            obtain ⟨⟨r, hr0, hr1⟩, hc0, hc1, hs0, hs1⟩ := hP8.ends
            clear hP8 hW8 k0_ k1_ k2_ k3_ k4_ k5_ k6_ k7_ k8_ k9_ k10_ k11_ k12_ k13_ k14_ k15_ k16_ k17_ k18_ k19_ k20_ k21_ mf HE HP HQ0 HD HBw HN HBs hwr hne r2 HLP
            obtain ⟨v0', v1', hA8⟩ := HE8.out
            have HA8 := Lib.hid (hA8.below (belowD (Below.refl _ _)))
            obtain ⟨k0_, k1_, k2_, k3_, k4_, k5_, k6_, k7_, k8_, k9_, k10_, k11_, k12_, k13_, k14_, k15_, k16_, k17_, k18_, k19_, k20_, k21_, mf⟩ := cells22 hA8.blk
            have HOf0 := Lib.hid (fun W' (hW' : Below W8.drew.heap.size W8.drew W') => ofG (HA8.out.a0.below hW') hs0 okA lN1)
            have HOf1 := Lib.hid (fun W' (hW' : Below W8.drew.heap.size W8.drew W') => ofG (HA8.out.a1.below hW') hs1 okX lM1)
            rw [hr0, idA_A] at HOf0
            rw [hr1, idA_X] at HOf1
            have hbd : Below W8.drew.heap.size W8.drew W8.drew := Below.refl _ _
            have HHX := Lib.hid (fun W' v l (h : RecAt idTL 9 W' W'.heap.size v l) (hm : memI pX l = r) (hl : l.length ≤ 1) => holdG h hm hl)
            have HHA := Lib.hid (fun W' v l (h : RecAt idTL 9 W' W'.heap.size v l) (hm : memI pA l = r) (hl : l.length ≤ 1) => holdG h hm hl)
            rw [idA_X] at HHX
            rw [idA_A] at HHA
            have HS0 := Lib.hid hs0
            have HS1 := Lib.hid hs1
            have HC0 := Lib.hid hc0
            have HC1 := Lib.hid hc1
            clear hA8 hs0 hs1 hr0 hr1 hc0 hc1 HE8
            go_region_held3 (fun w' => w'.cell? ⟨b, 0, none⟩ = some (.pointer (some ⟨z0, 0, none⟩)) ∧ w'.cell? ⟨b, 1, none⟩ = some (.pointer (some ⟨z1, 0, none⟩)) ∧ w'.cell? ⟨b, 2, none⟩ = some (.int .i64 6) ∧ w'.cell? ⟨b, 3, none⟩ = some (.int .i64 1) ∧ w'.cell? ⟨b, 4, none⟩ = some (.int .i64 1) ∧ w'.cell? ⟨b, 5, none⟩ = some (.string ⟨#[110]⟩) ∧ w'.cell? ⟨b, 6, none⟩ = some (.string ⟨#[]⟩) ∧ w'.cell? ⟨b, 7, none⟩ = some (.int .i64 0) ∧ w'.cell? ⟨b, 8, none⟩ = some (.slice none 0 0) ∧ w'.cell? ⟨b, 9, none⟩ = some (.string ⟨#[]⟩) ∧ w'.cell? ⟨b, 10, none⟩ = some (.int .i64 0) ∧ w'.cell? ⟨b, 11, none⟩ = some (.int .i64 6) ∧ w'.cell? ⟨b, 12, none⟩ = some (.int .i64 1) ∧ w'.cell? ⟨b, 13, none⟩ = some (.int .i64 1) ∧ w'.cell? ⟨b, 14, none⟩ = some (.string ⟨#[109]⟩) ∧ w'.cell? ⟨b, 15, none⟩ = some (.string ⟨#[]⟩) ∧ w'.cell? ⟨b, 16, none⟩ = some (.int .i64 0) ∧ w'.cell? ⟨b, 17, none⟩ = some (.slice none 0 0) ∧ w'.cell? ⟨b, 18, none⟩ = some (.string ⟨#[]⟩) ∧ w'.cell? ⟨b, 19, none⟩ = some (.int .i64 0)) (go_keep)
              (first
                | (go_at_call 22; (with_reducible refine (HOf0.out _ hbd).mono ?_); rintro e wa ⟨va, la, rfl, hra, hma, hla, hb⟩; replace hbd := hbd.trans (hb.mono hbd.size); obtain ⟨k0_, k1_, k2_, k3_, k4_, k5_, k6_, k7_, k8_, k9_, k10_, k11_, k12_, k13_, k14_, k15_, k16_, k17_, k18_, k19_, k20_, k21_, mf⟩ := cells22 (HA8.out.below hbd).blk)
                | (go_at_call 23; (with_reducible refine (HHX.out _ va la hra hma hla).mono ?_); rintro e wb ⟨rfl, hb⟩; replace hbd := hbd.trans (hb.mono hbd.size); obtain ⟨k0_, k1_, k2_, k3_, k4_, k5_, k6_, k7_, k8_, k9_, k10_, k11_, k12_, k13_, k14_, k15_, k16_, k17_, k18_, k19_, k20_, k21_, mf⟩ := cells22 (HA8.out.below hbd).blk)
                | (go_at_call 22; (with_reducible refine (HOf1.out _ hbd).mono ?_); rintro e wc ⟨vc, lc, rfl, hrc, hmc, hlc, hb⟩; replace hbd := hbd.trans (hb.mono hbd.size); obtain ⟨k0_, k1_, k2_, k3_, k4_, k5_, k6_, k7_, k8_, k9_, k10_, k11_, k12_, k13_, k14_, k15_, k16_, k17_, k18_, k19_, k20_, k21_, mf⟩ := cells22 (HA8.out.below hbd).blk)
                | (go_at_call 23; (with_reducible refine (HHA.out _ vc lc hrc hmc hlc).mono ?_); rintro e wd ⟨rfl, hb⟩; replace hbd := hbd.trans (hb.mono hbd.size); obtain ⟨k0_, k1_, k2_, k3_, k4_, k5_, k6_, k7_, k8_, k9_, k10_, k11_, k12_, k13_, k14_, k15_, k16_, k17_, k18_, k19_, k20_, k21_, mf⟩ := cells22 (HA8.out.below hbd).blk))
            have HA9 := Lib.hid (HA8.out.below hbd)
            have HB9 := Lib.hid (HB8.out.trans (((belowD (Below.refl W8.heap.size W8)).trans hbd).mono HB8.out.size))
            clear hbd HA8 HB8 HOf0 HOf1 HHX HHA hra hma hla hrc hmc hlc k0_ k1_ k2_ k3_ k4_ k5_ k6_ k7_ k8_ k9_ k10_ k11_ k12_ k13_ k14_ k15_ k16_ k17_ k18_ k19_ k20_ k21_ mf
            obtain ⟨k0_, k1_, k2_, k3_, k4_, k5_, k6_, k7_, k8_, k9_, k10_, k11_, k12_, k13_, k14_, k15_, k16_, k17_, k18_, k19_, k20_, k21_, mf⟩ := cells22 HA9.out.blk
            have hPd := HA9.out.below (belowD (Below.refl _ _))
            have hbP : Below b wd wd.drew := belowD (Below.refl _ _)
            have hle : (b ≤ z0 ∧ b ≤ h0 ∧ b ≤ m0) ∧ (b ≤ z1 ∧ b ≤ h1 ∧ b ≤ m1) := by have := HA9.out.l0; have := HA9.out.l1; omega
            have HCa0 : Hid (∀ W', LkAt W' z0 h0 m0 S0 → Calls Tryz.prog 41 #[.pointer (some ⟨z0, 0, none⟩), .agg #[.int .i64 6, .int .i64 1, .int .i64 1, .string ⟨#[110]⟩, .string ⟨#[]⟩, .int .i64 0, .slice none 0 0, .string ⟨#[]⟩, .int .i64 0], .agg #[.int .i64 6, .int .i64 1, .int .i64 1, .string ⟨#[109]⟩, .string ⟨#[]⟩, .int .i64 0, .slice none 0 0, .string ⟨#[]⟩, .int .i64 0]] W' (fun e w' => e = .returned (.int .i64 0) ∧ LkAt w' z0 h0 m0 (cameS S0 pA pX) ∧ TouchB (LkS z0 h0 m0) W' w')) := Lib.hid (fun W' hW => by
              have hh := cameI hW pA pX
              rw [okA, okX, HS0.out.node, HS0.out.gen, f3t] at hh
              exact hh)
            have HCa1 : Hid (∀ W', LkAt W' z1 h1 m1 S1 → Calls Tryz.prog 41 #[.pointer (some ⟨z1, 0, none⟩), .agg #[.int .i64 6, .int .i64 1, .int .i64 1, .string ⟨#[109]⟩, .string ⟨#[]⟩, .int .i64 0, .slice none 0 0, .string ⟨#[]⟩, .int .i64 0], .agg #[.int .i64 6, .int .i64 1, .int .i64 1, .string ⟨#[110]⟩, .string ⟨#[]⟩, .int .i64 0, .slice none 0 0, .string ⟨#[]⟩, .int .i64 0]] W' (fun e w' => e = .returned (.int .i64 0) ∧ LkAt w' z1 h1 m1 (cameS S1 pX pA) ∧ TouchB (LkS z1 h1 m1) W' w')) := Lib.hid (fun W' hW => by
              have hh := cameI hW pX pA
              rw [okA, okX, HS1.out.node, HS1.out.gen, f3u] at hh
              exact hh)
            go_upto_region 23 with (fail)
            go_region_held3 (fun w' => w'.cell? ⟨b, 0, none⟩ = some (.pointer (some ⟨z0, 0, none⟩)) ∧ w'.cell? ⟨b, 1, none⟩ = some (.pointer (some ⟨z1, 0, none⟩)) ∧ w'.cell? ⟨b, 2, none⟩ = some (.int .i64 6) ∧ w'.cell? ⟨b, 3, none⟩ = some (.int .i64 1) ∧ w'.cell? ⟨b, 4, none⟩ = some (.int .i64 1) ∧ w'.cell? ⟨b, 5, none⟩ = some (.string ⟨#[110]⟩) ∧ w'.cell? ⟨b, 6, none⟩ = some (.string ⟨#[]⟩) ∧ w'.cell? ⟨b, 7, none⟩ = some (.int .i64 0) ∧ w'.cell? ⟨b, 8, none⟩ = some (.slice none 0 0) ∧ w'.cell? ⟨b, 9, none⟩ = some (.string ⟨#[]⟩) ∧ w'.cell? ⟨b, 10, none⟩ = some (.int .i64 0) ∧ w'.cell? ⟨b, 11, none⟩ = some (.int .i64 6) ∧ w'.cell? ⟨b, 12, none⟩ = some (.int .i64 1) ∧ w'.cell? ⟨b, 13, none⟩ = some (.int .i64 1) ∧ w'.cell? ⟨b, 14, none⟩ = some (.string ⟨#[109]⟩) ∧ w'.cell? ⟨b, 15, none⟩ = some (.string ⟨#[]⟩) ∧ w'.cell? ⟨b, 16, none⟩ = some (.int .i64 0) ∧ w'.cell? ⟨b, 17, none⟩ = some (.slice none 0 0) ∧ w'.cell? ⟨b, 18, none⟩ = some (.string ⟨#[]⟩) ∧ w'.cell? ⟨b, 19, none⟩ = some (.int .i64 0)) (go_keep)
              (first
                | (go_at_call 41; (with_reducible refine (HCa1.out _ hPd.a1).mono ?_); rintro e wf ⟨rfl, hS, ht⟩; replace hbP := hbP.trans (below_of_touch ht hle.2.1 hle.2.2.1 hle.2.2.2 (Nat.le_of_lt hPd.blt)); replace hPd := hPd.side1 hS ht; obtain ⟨k0_, k1_, k2_, k3_, k4_, k5_, k6_, k7_, k8_, k9_, k10_, k11_, k12_, k13_, k14_, k15_, k16_, k17_, k18_, k19_, k20_, k21_, mf⟩ := cells22 hPd.blk)
                | (go_at_call 41; (with_reducible refine (HCa0.out _ hPd.a0).mono ?_); rintro e we ⟨rfl, hS, ht⟩; replace hbP := hbP.trans (below_of_touch ht hle.1.1 hle.1.2.1 hle.1.2.2 (Nat.le_of_lt hPd.blt)); replace hPd := hPd.side0 hS ht; obtain ⟨k0_, k1_, k2_, k3_, k4_, k5_, k6_, k7_, k8_, k9_, k10_, k11_, k12_, k13_, k14_, k15_, k16_, k17_, k18_, k19_, k20_, k21_, mf⟩ := cells22 hPd.blk))
            have HAf := Lib.hid hPd
            have HBf := Lib.hid (HB9.out.trans (hbP.mono HWb.out))
            clear hPd hbP HCa0 HCa1 HA9 HB9 hS ht k0_ k1_ k2_ k3_ k4_ k5_ k6_ k7_ k8_ k9_ k10_ k11_ k12_ k13_ k14_ k15_ k16_ k17_ k18_ k19_ k20_ k21_ mf
            obtain ⟨k0_, k1_, k2_, k3_, k4_, k5_, k6_, k7_, k8_, k9_, k10_, k11_, k12_, k13_, k14_, k15_, k16_, k17_, k18_, k19_, k20_, k21_, mf⟩ := cells22 HAf.out.blk
            go_upto_region 25 with (fail)
            have HAg := Lib.hid (HAf.out.below (belowD (Below.refl _ _)))
            have HOf0 := Lib.hid (fun W' (hW' : Below wf.drew.heap.size wf.drew W') => ofG (HAg.out.a0.below hW') (came_ok HS0.out) okA lN1)
            have HOf1 := Lib.hid (fun W' (hW' : Below wf.drew.heap.size wf.drew W') => ofG (HAg.out.a1.below hW') (came_ok HS1.out) okX lM1)
            rw [HC0.out, idA_A] at HOf0
            rw [HC1.out, idA_X] at HOf1
            have hbd : Below wf.drew.heap.size wf.drew wf.drew := Below.refl _ _
            have HHX := Lib.hid (fun W' v l (h : RecAt idTL 9 W' W'.heap.size v l) (hm : memI pX l = true) (hl : l.length ≤ 1) => holdG h hm hl)
            have HHA := Lib.hid (fun W' v l (h : RecAt idTL 9 W' W'.heap.size v l) (hm : memI pA l = true) (hl : l.length ≤ 1) => holdG h hm hl)
            rw [idA_X] at HHX
            rw [idA_A] at HHA
            go_region_held3 (fun w' => w'.cell? ⟨b, 0, none⟩ = some (.pointer (some ⟨z0, 0, none⟩)) ∧ w'.cell? ⟨b, 1, none⟩ = some (.pointer (some ⟨z1, 0, none⟩)) ∧ w'.cell? ⟨b, 2, none⟩ = some (.int .i64 6) ∧ w'.cell? ⟨b, 3, none⟩ = some (.int .i64 1) ∧ w'.cell? ⟨b, 4, none⟩ = some (.int .i64 1) ∧ w'.cell? ⟨b, 5, none⟩ = some (.string ⟨#[110]⟩) ∧ w'.cell? ⟨b, 6, none⟩ = some (.string ⟨#[]⟩) ∧ w'.cell? ⟨b, 7, none⟩ = some (.int .i64 0) ∧ w'.cell? ⟨b, 8, none⟩ = some (.slice none 0 0) ∧ w'.cell? ⟨b, 9, none⟩ = some (.string ⟨#[]⟩) ∧ w'.cell? ⟨b, 10, none⟩ = some (.int .i64 0) ∧ w'.cell? ⟨b, 11, none⟩ = some (.int .i64 6) ∧ w'.cell? ⟨b, 12, none⟩ = some (.int .i64 1) ∧ w'.cell? ⟨b, 13, none⟩ = some (.int .i64 1) ∧ w'.cell? ⟨b, 14, none⟩ = some (.string ⟨#[109]⟩) ∧ w'.cell? ⟨b, 15, none⟩ = some (.string ⟨#[]⟩) ∧ w'.cell? ⟨b, 16, none⟩ = some (.int .i64 0) ∧ w'.cell? ⟨b, 17, none⟩ = some (.slice none 0 0) ∧ w'.cell? ⟨b, 18, none⟩ = some (.string ⟨#[]⟩) ∧ w'.cell? ⟨b, 19, none⟩ = some (.int .i64 0)) (go_keep)
              (first
                | (go_at_call 22; (with_reducible refine (HOf0.out _ hbd).mono ?_); rintro e wa ⟨va, la, rfl, hra, hma, hla, hb⟩; replace hbd := hbd.trans (hb.mono hbd.size); obtain ⟨k0_, k1_, k2_, k3_, k4_, k5_, k6_, k7_, k8_, k9_, k10_, k11_, k12_, k13_, k14_, k15_, k16_, k17_, k18_, k19_, k20_, k21_, mf⟩ := cells22 (HAg.out.below hbd).blk)
                | (go_at_call 23; (with_reducible refine (HHX.out _ va la hra hma hla).mono ?_); rintro e wb ⟨rfl, hb⟩; replace hbd := hbd.trans (hb.mono hbd.size); obtain ⟨k0_, k1_, k2_, k3_, k4_, k5_, k6_, k7_, k8_, k9_, k10_, k11_, k12_, k13_, k14_, k15_, k16_, k17_, k18_, k19_, k20_, k21_, mf⟩ := cells22 (HAg.out.below hbd).blk)
                | (go_at_call 22; (with_reducible refine (HOf1.out _ hbd).mono ?_); rintro e wc ⟨vc, lc, rfl, hrc, hmc, hlc, hb⟩; replace hbd := hbd.trans (hb.mono hbd.size); obtain ⟨k0_, k1_, k2_, k3_, k4_, k5_, k6_, k7_, k8_, k9_, k10_, k11_, k12_, k13_, k14_, k15_, k16_, k17_, k18_, k19_, k20_, k21_, mf⟩ := cells22 (HAg.out.below hbd).blk)
                | (go_at_call 23; (with_reducible refine (HHA.out _ vc lc hrc hmc hlc).mono ?_); rintro e wd ⟨rfl, hb⟩; replace hbd := hbd.trans (hb.mono hbd.size); obtain ⟨k0_, k1_, k2_, k3_, k4_, k5_, k6_, k7_, k8_, k9_, k10_, k11_, k12_, k13_, k14_, k15_, k16_, k17_, k18_, k19_, k20_, k21_, mf⟩ := cells22 (HAg.out.below hbd).blk))
            have HBz := Lib.hid (HBf.out.trans (((belowD (Below.refl wf.heap.size wf)).trans hbd).mono HBf.out.size))
            clear hbd HAg HOf0 HOf1 HHX HHA hra hma hla hrc hmc hlc k0_ k1_ k2_ k3_ k4_ k5_ k6_ k7_ k8_ k9_ k10_ k11_ k12_ k13_ k14_ k15_ k16_ k17_ k18_ k19_ k20_ k21_ mf
            go_wp2_with fail
            go_ret
            exact ⟨rfl, HBz.out⟩
end Go.Proofs.YtnakbepcalciiaaGreat.lk
