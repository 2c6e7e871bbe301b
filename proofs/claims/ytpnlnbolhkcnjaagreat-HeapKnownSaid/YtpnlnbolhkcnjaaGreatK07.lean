/- CoH,CoI,CoJ. No condition beyond theirs. -/
import Derived.Test.YtpnlnbolhkcnjaaGreatK06
set_option linter.unusedSimpArgs false
set_option linter.unusedVariables false
set_option maxHeartbeats 1000000
set_option maxRecDepth 100000
namespace Go.Proofs.YtpnlnbolhkcnjaaGreat.cl
open Go.RowKit mem words
theorem within137 (x lo hi:Int) (h0:0 ≤ x) (h1:x ≤ 18446744073709551615) (w:World):Calls Tryz.prog 187 #[.int .u64 x,.int .i64 lo,.int .i64 hi] w fun e w'=>e = .returned (.bool (wi x lo hi))∧w = w':=by
 have HS:=Lib.hid (fun W=>SmallOf x h0 h1 W);have HW:Hid (wi x lo hi = (soOk x && decide (lo ≤ soN x∧soN x ≤ hi))):=Lib.hid rfl;generalize wi x lo hi = r at *;generalize soN x = n at *
 cases hs:soOk x
 ·rw [hs] at HS HW;go_enter Tryz.func187,Tryz.ntmps187;go_wp2_with (go_at_call 105;refine (HS.out _).mono ?_;rintro e w' ⟨rfl,rfl⟩)
  go_ret;exact ⟨by rw [HW.out];rfl,rfl⟩
 ·rw [hs] at HS HW
  by_cases h2:lo ≤ n
  ·by_cases h3:n ≤ hi
   ·have e1:Hid (r = true):=Lib.hid (by rw [HW.out];simp [h2,h3]);have q1:decide (lo ≤ n) = true:=decide_eq_true h2;have q2:decide (n ≤ hi) = true:=decide_eq_true h3;go_enter Tryz.func187,Tryz.ntmps187;go_wp2_with (go_at_call 105;refine (HS.out _).mono ?_;rintro e w' ⟨rfl,rfl⟩)
    go_ret;exact ⟨by rw [e1.out];rfl,rfl⟩
   ·have e1:Hid (r = false):=Lib.hid (by rw [HW.out];simp [h2,h3]);have q1:decide (lo ≤ n) = true:=decide_eq_true h2;have q2:decide (n ≤ hi) = false:=decide_eq_false h3;go_enter Tryz.func187,Tryz.ntmps187;go_wp2_with (go_at_call 105;refine (HS.out _).mono ?_;rintro e w' ⟨rfl,rfl⟩)
    go_ret;exact ⟨by rw [e1.out];rfl,rfl⟩
  ·have e1:Hid (r = false):=Lib.hid (by rw [HW.out];simp [h2]);have q1:decide (lo ≤ n) = false:=decide_eq_false h2;go_enter Tryz.func187,Tryz.ntmps187;go_wp2_with (go_at_call 105;refine (HS.out _).mono ?_;rintro e w' ⟨rfl,rfl⟩)
   go_ret;exact ⟨by rw [e1.out];rfl,rfl⟩
theorem atom136 (w:World) (zb g o n c:Nat) (j:Nat) (x:Int) (h0:0 ≤ x) (h1:x ≤ 18446744073709551615) (hb:w.cell? ⟨zb,0,none⟩ = some (.slice (some ⟨g,o,none⟩) n c)) (hx:w.cell? ⟨g,o + j,none⟩ = some (.int .u64 x)) (hj:j < n) :
 Calls Tryz.prog 186 #[.int .i64 j,.pointer (some ⟨zb,0,none⟩)] w fun e w'=>e = .returned (.bool (aoOk x))∧w = w':=by
 have HA:=Lib.hid (fun W=>AtomOf x h0 h1 W);have r0:(0:Int) ≤ (j:Int):=by omega
 have r1:(j:Int) < (n:Int):=by omega
 go_enter Tryz.func186,Tryz.ntmps186;go_wp2_with (go_at_call 106;refine (HA.out _).mono ?_;rintro e w' ⟨rfl,rfl⟩)
 go_ret;exact ⟨rfl,rfl⟩
theorem RowAt.nth {w:World} {B:Nat} {p:Option Addr} {n c:Nat} {l:List Int} (h:WAt w B (.slice p n c) l) (h0:0 < l.length):∃ g o,p = some ⟨g,o,none⟩∧n = l.length∧g < B∧∀ j,j < l.length→w.cell? ⟨g,o + j,none⟩ = some (.int .u64 (l.getD j 0)):=by
 obtain ⟨p',c',e,h1,h2,h3⟩:=h;simp only [Value.slice.injEq] at e;obtain ⟨rfl,rfl,rfl⟩:=e;obtain ⟨g,o,e,hg,hc⟩:=h3 (List.length_pos_iff.1 h0);refine ⟨g,o,e,rfl,hg,fun j hj=>?_⟩;rw [hc j hj,List.getD_eq_getElem?_getD,List.getElem?_eq_getElem hj];rfl
theorem wds_getD {l:List Int} (h:Wds l) (j:Nat):0 ≤ l.getD j 0∧l.getD j 0 ≤ 18446744073709551615:=by
 rw [List.getD_eq_getElem?_getD]
 by_cases hj:j < l.length
 ·rw [List.getElem?_eq_getElem hj];exact h _ (List.getElem_mem hj)
 ·rw [List.getElem?_eq_none (by omega)];simp
theorem formed_k2 (w:World) (B:Nat) (v:Value) (l:List Int) (hB:B ≤ w.heap.size) (h:WAt w B v l) (hw:Wds l):Calls Tryz.prog 132 #[.int .i64 2,v] w fun e w'=>e = .returned (.bool (fmd 2 l))∧Below w.heap.size w w':=by
 have HF:Hid (fmd 2 l = (decide (4 ≤ l.length∧l.length ≤ 204) && (aoOk (l.getD 0 0) && (wi (l.getD 1 0) 1 2147483647 && (wi (l.getD 2 0) 0 999 && wi (l.getD 3 0) 0 16))))):=Lib.hid rfl;have d0:=wds_getD hw 0;have d1:=wds_getD hw 1;have d2:=wds_getD hw 2;have d3:=wds_getD hw 3;obtain ⟨p,c,rfl,hlc,hcm,hh⟩:=h;have hz:=(MapKept.heap_alloc w (.cells #[.slice p l.length c] 22)).1;have hbz:Below w.heap.size w (w.alloc (.cells #[.slice p l.length c] 22)):=(Below.refl _ _).alloc (Nat.le_refl _) _;have HB:=Lib.hid hbz
 have hcz:(w.alloc (.cells #[.slice p l.length c] 22)).cell? ⟨w.heap.size,0,none⟩ = some (.slice p l.length c):=by simp only [World.cell?,hz];rfl
 by_cases h4:4 ≤ l.length
 ·have q1:decide ((4:Int) ≤ (l.length:Int)) = true:=decide_eq_true (by omega)
  by_cases h5:l.length ≤ 204
  ·have q2:decide ((l.length:Int) ≤ 204) = true:=decide_eq_true (by omega);obtain ⟨g,o,rfl,_,hg,hc⟩:=RowAt.nth (w:=w) (B:=B) (l:=l) ⟨_,_,rfl,hlc,hcm,hh⟩ (by omega);have c0:=(hbz.cell (p:=⟨g,o + 0,none⟩) (show g < w.heap.size by omega)).trans (hc 0 (by omega));have c1:=(hbz.cell (p:=⟨g,o + 1,none⟩) (show g < w.heap.size by omega)).trans (hc 1 (by omega));have c2:=(hbz.cell (p:=⟨g,o + 2,none⟩) (show g < w.heap.size by omega)).trans (hc 2 (by omega));have c3:=(hbz.cell (p:=⟨g,o + 3,none⟩) (show g < w.heap.size by omega)).trans (hc 3 (by omega))
   have H0:=Lib.hid (fun (_:Unit)=>atom136 (w.alloc (.cells #[.slice (some ⟨g,o,none⟩) l.length c] 22)) w.heap.size g o l.length c 0 _ d0.1 d0.2 hcz c0 (by omega));have H1:=Lib.hid (fun W=>within137 _ 1 2147483647 d1.1 d1.2 W);have H2:=Lib.hid (fun W=>within137 _ 0 999 d2.1 d2.2 W);have H3:=Lib.hid (fun W=>within137 _ 0 16 d3.1 d3.2 W);rw [decide_eq_true (show 4 ≤ l.length∧l.length ≤ 204 from ⟨h4,h5⟩),Bool.true_and] at HF;clear hc hh hz hbz hw;generalize fmd 2 l = r at *;generalize aoOk (l.getD 0 0) = T0 at *;generalize wi (l.getD 1 0) 1 2147483647 = T1 at *
   generalize wi (l.getD 2 0) 0 999 = T2 at *;generalize wi (l.getD 3 0) 0 16 = T3 at *;generalize l.getD 0 0 = x0 at *;generalize l.getD 1 0 = x1 at *;generalize l.getD 2 0 = x2 at *;generalize l.getD 3 0 = x3 at *;have r0:(0:Int) < (l.length:Int):=by omega
   have r1:(1:Int) < (l.length:Int):=by omega
   have r2:(2:Int) < (l.length:Int):=by omega
   have r3:(3:Int) < (l.length:Int):=by omega
   go_enter Tryz.func132,Tryz.ntmps132
   cases T0
   ·go_wp2_with fail;refine (H0.out ()).mono ?_;rintro e w' ⟨rfl,rfl⟩;go_wp2_with fail;go_ret;exact ⟨(by rw [HF.out];rfl),HB.out⟩
   ·go_wp2_with fail;refine (H0.out ()).mono ?_;rintro e w' ⟨rfl,rfl⟩
    cases T1
    ·go_wp2_with fail;refine (H1.out _).mono ?_;rintro e w' ⟨rfl,rfl⟩;go_wp2_with fail;go_ret;exact ⟨(by rw [HF.out];rfl),HB.out⟩
    ·go_wp2_with fail;refine (H1.out _).mono ?_;rintro e w' ⟨rfl,rfl⟩
     cases T2
     ·go_wp2_with fail;refine (H2.out _).mono ?_;rintro e w' ⟨rfl,rfl⟩;go_wp2_with fail;go_ret;exact ⟨(by rw [HF.out];rfl),HB.out⟩
     ·go_wp2_with fail;refine (H2.out _).mono ?_;rintro e w' ⟨rfl,rfl⟩
      cases T3
      ·go_wp2_with fail;refine (H3.out _).mono ?_;rintro e w' ⟨rfl,rfl⟩;go_wp2_with fail;go_ret;exact ⟨(by rw [HF.out];rfl),HB.out⟩
      ·go_wp2_with fail;refine (H3.out _).mono ?_;rintro e w' ⟨rfl,rfl⟩;go_wp2_with fail;go_ret;exact ⟨(by rw [HF.out];rfl),HB.out⟩
  ·have q2:decide ((l.length:Int) ≤ 204) = false:=decide_eq_false (by omega);rw [decide_eq_false (show ¬ (4 ≤ l.length∧l.length ≤ 204) from fun h=>h5 h.2),Bool.false_and] at HF;clear hh hz hbz hw;generalize fmd 2 l = r at *;go_enter Tryz.func132,Tryz.ntmps132;go_wp2_with fail;go_ret;exact ⟨(by rw [HF.out];rfl),HB.out⟩
 ·have q1:decide ((4:Int) ≤ (l.length:Int)) = false:=decide_eq_false (by omega);rw [decide_eq_false (show ¬ (4 ≤ l.length∧l.length ≤ 204) from fun h=>h4 h.1),Bool.false_and] at HF;clear hh hz hbz hw;generalize fmd 2 l = r at *;go_enter Tryz.func132,Tryz.ntmps132;go_wp2_with fail;go_ret;exact ⟨(by rw [HF.out];rfl),HB.out⟩
theorem formed_k3 (w:World) (B:Nat) (v:Value) (l:List Int) (hB:B ≤ w.heap.size) (h:WAt w B v l) (hw:Wds l):Calls Tryz.prog 132 #[.int .i64 3,v] w fun e w'=>e = .returned (.bool (fmd 3 l))∧Below w.heap.size w w':=by
 have HF:Hid (fmd 3 l = (decide (l.length = 3) && (aoOk (l.getD 0 0) && (aoOk (l.getD 1 0) && wi (l.getD 2 0) 0 16)))):=Lib.hid rfl;have d0:=wds_getD hw 0;have d1:=wds_getD hw 1;have d2:=wds_getD hw 2;obtain ⟨p,c,rfl,hlc,hcm,hh⟩:=h;have hz:=(MapKept.heap_alloc w (.cells #[.slice p l.length c] 22)).1;have hbz:Below w.heap.size w (w.alloc (.cells #[.slice p l.length c] 22)):=(Below.refl _ _).alloc (Nat.le_refl _) _;have HB:=Lib.hid hbz;have hcz:(w.alloc (.cells #[.slice p l.length c] 22)).cell? ⟨w.heap.size,0,none⟩ = some (.slice p l.length c):=by simp only [World.cell?,hz];rfl
 by_cases h4:l.length = 3
 ·have q1:((l.length:Int) != 3) = false:=by simp [h4]
  have q1':((l.length:Int) == 3) = true:=by simp [h4]
  by_cases h5:True
  ·have q2:True:=trivial;obtain ⟨g,o,rfl,_,hg,hc⟩:=RowAt.nth (w:=w) (B:=B) (l:=l) ⟨_,_,rfl,hlc,hcm,hh⟩ (by omega);have c0:=(hbz.cell (p:=⟨g,o + 0,none⟩) (show g < w.heap.size by omega)).trans (hc 0 (by omega));have c1:=(hbz.cell (p:=⟨g,o + 1,none⟩) (show g < w.heap.size by omega)).trans (hc 1 (by omega));have c2:=(hbz.cell (p:=⟨g,o + 2,none⟩) (show g < w.heap.size by omega)).trans (hc 2 (by omega));have H0:=Lib.hid (fun (_:Unit)=>atom136 (w.alloc (.cells #[.slice (some ⟨g,o,none⟩) l.length c] 22)) w.heap.size g o l.length c 0 _ d0.1 d0.2 hcz c0 (by omega))
   have H1:=Lib.hid (fun (_:Unit)=>atom136 (w.alloc (.cells #[.slice (some ⟨g,o,none⟩) l.length c] 22)) w.heap.size g o l.length c 1 _ d1.1 d1.2 hcz c1 (by omega));have H2:=Lib.hid (fun W=>within137 _ 0 16 d2.1 d2.2 W);rw [decide_eq_true (show l.length = 3 from h4),Bool.true_and] at HF;clear hc hh hz hbz hw;generalize fmd 3 l = r at *;generalize aoOk (l.getD 0 0) = T0 at *;generalize aoOk (l.getD 1 0) = T1 at *;generalize wi (l.getD 2 0) 0 16 = T2 at *;generalize l.getD 0 0 = x0 at *;generalize l.getD 1 0 = x1 at *;generalize l.getD 2 0 = x2 at *;have r0:(0:Int) < (l.length:Int):=by omega
   have r1:(1:Int) < (l.length:Int):=by omega
   have r2:(2:Int) < (l.length:Int):=by omega
   clear h4;go_enter Tryz.func132,Tryz.ntmps132
   cases T0
   ·go_wp2_with fail;refine (H0.out ()).mono ?_;rintro e w' ⟨rfl,rfl⟩;go_wp2_with fail;go_ret;exact ⟨(by rw [HF.out];rfl),HB.out⟩
   ·go_wp2_with fail;refine (H0.out ()).mono ?_;rintro e w' ⟨rfl,rfl⟩
    cases T1
    ·go_wp2_with fail;refine (H1.out ()).mono ?_;rintro e w' ⟨rfl,rfl⟩;go_wp2_with fail;go_ret;exact ⟨(by rw [HF.out];rfl),HB.out⟩
    ·go_wp2_with fail;refine (H1.out ()).mono ?_;rintro e w' ⟨rfl,rfl⟩
     cases T2
     ·go_wp2_with fail;refine (H2.out _).mono ?_;rintro e w' ⟨rfl,rfl⟩;go_wp2_with fail;go_ret;exact ⟨(by rw [HF.out];rfl),HB.out⟩
     ·go_wp2_with fail;refine (H2.out _).mono ?_;rintro e w' ⟨rfl,rfl⟩;go_wp2_with fail;go_ret;exact ⟨(by rw [HF.out];rfl),HB.out⟩
  ·exact absurd trivial h5
 ·have q1:((l.length:Int) != 3) = true:=by simp;omega
  have q1':((l.length:Int) == 3) = false:=by simp;omega
  rw [decide_eq_false (show ¬ (l.length = 3) from h4),Bool.false_and] at HF;clear hh hz hbz hw;generalize fmd 3 l = r at *;go_enter Tryz.func132,Tryz.ntmps132;go_wp2_with fail;go_ret;exact ⟨(by rw [HF.out];rfl),HB.out⟩
theorem formed_k4 (w:World) (B:Nat) (v:Value) (l:List Int) (hB:B ≤ w.heap.size) (h:WAt w B v l) (hw:Wds l):Calls Tryz.prog 132 #[.int .i64 4,v] w fun e w'=>e = .returned (.bool (fmd 4 l))∧Below w.heap.size w w':=by
 have HF:Hid (fmd 4 l = (decide (l.length = 3) && (aoOk (l.getD 0 0) && (wi (l.getD 1 0) 1 2147483647 && wi (l.getD 2 0) 1 2147483647)))):=Lib.hid rfl;have d0:=wds_getD hw 0;have d1:=wds_getD hw 1;have d2:=wds_getD hw 2;obtain ⟨p,c,rfl,hlc,hcm,hh⟩:=h;have hz:=(MapKept.heap_alloc w (.cells #[.slice p l.length c] 22)).1;have hbz:Below w.heap.size w (w.alloc (.cells #[.slice p l.length c] 22)):=(Below.refl _ _).alloc (Nat.le_refl _) _;have HB:=Lib.hid hbz
 have hcz:(w.alloc (.cells #[.slice p l.length c] 22)).cell? ⟨w.heap.size,0,none⟩ = some (.slice p l.length c):=by simp only [World.cell?,hz];rfl
 by_cases h4:l.length = 3
 ·have q1:((l.length:Int) != 3) = false:=by simp [h4]
  have q1':((l.length:Int) == 3) = true:=by simp [h4]
  by_cases h5:True
  ·have q2:True:=trivial;obtain ⟨g,o,rfl,_,hg,hc⟩:=RowAt.nth (w:=w) (B:=B) (l:=l) ⟨_,_,rfl,hlc,hcm,hh⟩ (by omega);have c0:=(hbz.cell (p:=⟨g,o + 0,none⟩) (show g < w.heap.size by omega)).trans (hc 0 (by omega));have c1:=(hbz.cell (p:=⟨g,o + 1,none⟩) (show g < w.heap.size by omega)).trans (hc 1 (by omega));have c2:=(hbz.cell (p:=⟨g,o + 2,none⟩) (show g < w.heap.size by omega)).trans (hc 2 (by omega));have H0:=Lib.hid (fun (_:Unit)=>atom136 (w.alloc (.cells #[.slice (some ⟨g,o,none⟩) l.length c] 22)) w.heap.size g o l.length c 0 _ d0.1 d0.2 hcz c0 (by omega))
   have H1:=Lib.hid (fun W=>within137 _ 1 2147483647 d1.1 d1.2 W);have H2:=Lib.hid (fun W=>within137 _ 1 2147483647 d2.1 d2.2 W);rw [decide_eq_true (show l.length = 3 from h4),Bool.true_and] at HF;clear hc hh hz hbz hw;generalize fmd 4 l = r at *;generalize aoOk (l.getD 0 0) = T0 at *;generalize wi (l.getD 1 0) 1 2147483647 = T1 at *;generalize wi (l.getD 2 0) 1 2147483647 = T2 at *;generalize l.getD 0 0 = x0 at *;generalize l.getD 1 0 = x1 at *;generalize l.getD 2 0 = x2 at *;have r0:(0:Int) < (l.length:Int):=by omega
   have r1:(1:Int) < (l.length:Int):=by omega
   have r2:(2:Int) < (l.length:Int):=by omega
   clear h4;go_enter Tryz.func132,Tryz.ntmps132
   cases T0
   ·go_wp2_with fail;refine (H0.out ()).mono ?_;rintro e w' ⟨rfl,rfl⟩;go_wp2_with fail;go_ret;exact ⟨(by rw [HF.out];rfl),HB.out⟩
   ·go_wp2_with fail;refine (H0.out ()).mono ?_;rintro e w' ⟨rfl,rfl⟩
    cases T1
    ·go_wp2_with fail;refine (H1.out _).mono ?_;rintro e w' ⟨rfl,rfl⟩;go_wp2_with fail;go_ret;exact ⟨(by rw [HF.out];rfl),HB.out⟩
    ·go_wp2_with fail;refine (H1.out _).mono ?_;rintro e w' ⟨rfl,rfl⟩
     cases T2
     ·go_wp2_with fail;refine (H2.out _).mono ?_;rintro e w' ⟨rfl,rfl⟩;go_wp2_with fail;go_ret;exact ⟨(by rw [HF.out];rfl),HB.out⟩
     ·go_wp2_with fail;refine (H2.out _).mono ?_;rintro e w' ⟨rfl,rfl⟩;go_wp2_with fail;go_ret;exact ⟨(by rw [HF.out];rfl),HB.out⟩
  ·exact absurd trivial h5
 ·have q1:((l.length:Int) != 3) = true:=by simp;omega
  have q1':((l.length:Int) == 3) = false:=by simp;omega
  rw [decide_eq_false (show ¬ (l.length = 3) from h4),Bool.false_and] at HF;clear hh hz hbz hw;generalize fmd 4 l = r at *;go_enter Tryz.func132,Tryz.ntmps132;go_wp2_with fail;go_ret;exact ⟨(by rw [HF.out];rfl),HB.out⟩
theorem formed_k5 (w:World) (B:Nat) (v:Value) (l:List Int) (hB:B ≤ w.heap.size) (h:WAt w B v l) (hw:Wds l):Calls Tryz.prog 132 #[.int .i64 5,v] w fun e w'=>e = .returned (.bool (fmd 5 l))∧Below w.heap.size w w':=by
 have HF:Hid (fmd 5 l = (decide (l.length = 3) && (aoOk (l.getD 0 0) && (wi (l.getD 1 0) 1 2147483647 && wi (l.getD 2 0) 1 2147483647)))):=Lib.hid rfl;have d0:=wds_getD hw 0;have d1:=wds_getD hw 1;have d2:=wds_getD hw 2;obtain ⟨p,c,rfl,hlc,hcm,hh⟩:=h;have hz:=(MapKept.heap_alloc w (.cells #[.slice p l.length c] 22)).1;have hbz:Below w.heap.size w (w.alloc (.cells #[.slice p l.length c] 22)):=(Below.refl _ _).alloc (Nat.le_refl _) _;have HB:=Lib.hid hbz
 have hcz:(w.alloc (.cells #[.slice p l.length c] 22)).cell? ⟨w.heap.size,0,none⟩ = some (.slice p l.length c):=by simp only [World.cell?,hz];rfl
 by_cases h4:l.length = 3
 ·have q1:((l.length:Int) != 3) = false:=by simp [h4]
  have q1':((l.length:Int) == 3) = true:=by simp [h4]
  by_cases h5:True
  ·have q2:True:=trivial;obtain ⟨g,o,rfl,_,hg,hc⟩:=RowAt.nth (w:=w) (B:=B) (l:=l) ⟨_,_,rfl,hlc,hcm,hh⟩ (by omega);have c0:=(hbz.cell (p:=⟨g,o + 0,none⟩) (show g < w.heap.size by omega)).trans (hc 0 (by omega));have c1:=(hbz.cell (p:=⟨g,o + 1,none⟩) (show g < w.heap.size by omega)).trans (hc 1 (by omega));have c2:=(hbz.cell (p:=⟨g,o + 2,none⟩) (show g < w.heap.size by omega)).trans (hc 2 (by omega));have H0:=Lib.hid (fun (_:Unit)=>atom136 (w.alloc (.cells #[.slice (some ⟨g,o,none⟩) l.length c] 22)) w.heap.size g o l.length c 0 _ d0.1 d0.2 hcz c0 (by omega))
   have H1:=Lib.hid (fun W=>within137 _ 1 2147483647 d1.1 d1.2 W);have H2:=Lib.hid (fun W=>within137 _ 1 2147483647 d2.1 d2.2 W);rw [decide_eq_true (show l.length = 3 from h4),Bool.true_and] at HF;clear hc hh hz hbz hw;generalize fmd 5 l = r at *;generalize aoOk (l.getD 0 0) = T0 at *;generalize wi (l.getD 1 0) 1 2147483647 = T1 at *;generalize wi (l.getD 2 0) 1 2147483647 = T2 at *;generalize l.getD 0 0 = x0 at *;generalize l.getD 1 0 = x1 at *;generalize l.getD 2 0 = x2 at *;have r0:(0:Int) < (l.length:Int):=by omega
   have r1:(1:Int) < (l.length:Int):=by omega
   have r2:(2:Int) < (l.length:Int):=by omega
   clear h4;go_enter Tryz.func132,Tryz.ntmps132
   cases T0
   ·go_wp2_with fail;refine (H0.out ()).mono ?_;rintro e w' ⟨rfl,rfl⟩;go_wp2_with fail;go_ret;exact ⟨(by rw [HF.out];rfl),HB.out⟩
   ·go_wp2_with fail;refine (H0.out ()).mono ?_;rintro e w' ⟨rfl,rfl⟩
    cases T1
    ·go_wp2_with fail;refine (H1.out _).mono ?_;rintro e w' ⟨rfl,rfl⟩;go_wp2_with fail;go_ret;exact ⟨(by rw [HF.out];rfl),HB.out⟩
    ·go_wp2_with fail;refine (H1.out _).mono ?_;rintro e w' ⟨rfl,rfl⟩
     cases T2
     ·go_wp2_with fail;refine (H2.out _).mono ?_;rintro e w' ⟨rfl,rfl⟩;go_wp2_with fail;go_ret;exact ⟨(by rw [HF.out];rfl),HB.out⟩
     ·go_wp2_with fail;refine (H2.out _).mono ?_;rintro e w' ⟨rfl,rfl⟩;go_wp2_with fail;go_ret;exact ⟨(by rw [HF.out];rfl),HB.out⟩
  ·exact absurd trivial h5
 ·have q1:((l.length:Int) != 3) = true:=by simp;omega
  have q1':((l.length:Int) == 3) = false:=by simp;omega
  rw [decide_eq_false (show ¬ (l.length = 3) from h4),Bool.false_and] at HF;clear hh hz hbz hw;generalize fmd 5 l = r at *;go_enter Tryz.func132,Tryz.ntmps132;go_wp2_with fail;go_ret;exact ⟨(by rw [HF.out];rfl),HB.out⟩
theorem formed_k8 (w:World) (B:Nat) (v:Value) (l:List Int) (hB:B ≤ w.heap.size) (h:WAt w B v l) (hw:Wds l):Calls Tryz.prog 132 #[.int .i64 8,v] w fun e w'=>e = .returned (.bool (fmd 8 l))∧Below w.heap.size w w':=by
 have HF:Hid (fmd 8 l = (decide (l.length = 3) && (wi (l.getD 0 0) 1 2147483647 && (wi (l.getD 1 0) 0 16384 && wi (l.getD 2 0) 513 16384)))):=Lib.hid rfl;have d0:=wds_getD hw 0;have d1:=wds_getD hw 1;have d2:=wds_getD hw 2;obtain ⟨p,c,rfl,hlc,hcm,hh⟩:=h;have hz:=(MapKept.heap_alloc w (.cells #[.slice p l.length c] 22)).1;have hbz:Below w.heap.size w (w.alloc (.cells #[.slice p l.length c] 22)):=(Below.refl _ _).alloc (Nat.le_refl _) _;have HB:=Lib.hid hbz
 have hcz:(w.alloc (.cells #[.slice p l.length c] 22)).cell? ⟨w.heap.size,0,none⟩ = some (.slice p l.length c):=by simp only [World.cell?,hz];rfl
 by_cases h4:l.length = 3
 ·have q1:((l.length:Int) != 3) = false:=by simp [h4]
  have q1':((l.length:Int) == 3) = true:=by simp [h4]
  by_cases h5:True
  ·have q2:True:=trivial;obtain ⟨g,o,rfl,_,hg,hc⟩:=RowAt.nth (w:=w) (B:=B) (l:=l) ⟨_,_,rfl,hlc,hcm,hh⟩ (by omega);have c0:=(hbz.cell (p:=⟨g,o + 0,none⟩) (show g < w.heap.size by omega)).trans (hc 0 (by omega));have c1:=(hbz.cell (p:=⟨g,o + 1,none⟩) (show g < w.heap.size by omega)).trans (hc 1 (by omega));have c2:=(hbz.cell (p:=⟨g,o + 2,none⟩) (show g < w.heap.size by omega)).trans (hc 2 (by omega));have H0:=Lib.hid (fun W=>within137 _ 1 2147483647 d0.1 d0.2 W);have H1:=Lib.hid (fun W=>within137 _ 0 16384 d1.1 d1.2 W);have H2:=Lib.hid (fun W=>within137 _ 513 16384 d2.1 d2.2 W)
   simp only [Nat.add_zero] at c0;rw [decide_eq_true (show l.length = 3 from h4),Bool.true_and] at HF;clear hc hh hz hbz hw;generalize fmd 8 l = r at *;generalize wi (l.getD 0 0) 1 2147483647 = T0 at *;generalize wi (l.getD 1 0) 0 16384 = T1 at *;generalize wi (l.getD 2 0) 513 16384 = T2 at *;generalize l.getD 0 0 = x0 at *;generalize l.getD 1 0 = x1 at *;generalize l.getD 2 0 = x2 at *;have r0:(0:Int) < (l.length:Int):=by omega
   have r1:(1:Int) < (l.length:Int):=by omega
   have r2:(2:Int) < (l.length:Int):=by omega
   clear h4;go_enter Tryz.func132,Tryz.ntmps132
   cases T0
   ·go_wp2_with fail;refine (H0.out _).mono ?_;rintro e w' ⟨rfl,rfl⟩;go_wp2_with fail;go_ret;exact ⟨(by rw [HF.out];rfl),HB.out⟩
   ·go_wp2_with fail;refine (H0.out _).mono ?_;rintro e w' ⟨rfl,rfl⟩
    cases T1
    ·go_wp2_with fail;refine (H1.out _).mono ?_;rintro e w' ⟨rfl,rfl⟩;go_wp2_with fail;go_ret;exact ⟨(by rw [HF.out];rfl),HB.out⟩
    ·go_wp2_with fail;refine (H1.out _).mono ?_;rintro e w' ⟨rfl,rfl⟩
     cases T2
     ·go_wp2_with fail;refine (H2.out _).mono ?_;rintro e w' ⟨rfl,rfl⟩;go_wp2_with fail;go_ret;exact ⟨(by rw [HF.out];rfl),HB.out⟩
     ·go_wp2_with fail;refine (H2.out _).mono ?_;rintro e w' ⟨rfl,rfl⟩;go_wp2_with fail;go_ret;exact ⟨(by rw [HF.out];rfl),HB.out⟩
  ·exact absurd trivial h5
 ·have q1:((l.length:Int) != 3) = true:=by simp;omega
  have q1':((l.length:Int) == 3) = false:=by simp;omega
  rw [decide_eq_false (show ¬ (l.length = 3) from h4),Bool.false_and] at HF;clear hh hz hbz hw;generalize fmd 8 l = r at *;go_enter Tryz.func132,Tryz.ntmps132;go_wp2_with fail;go_ret;exact ⟨(by rw [HF.out];rfl),HB.out⟩
theorem formed_k0 (w:World) (B:Nat) (v:Value) (l:List Int) (h:WAt w B v l):Calls Tryz.prog 132 #[.int .i64 0,v] w fun e w'=>e = .returned (.bool (fmd 0 l))∧Below w.heap.size w w':=by
 obtain ⟨p,c,rfl,hlc,hcm,hh⟩:=h;have HB:Hid (Below w.heap.size w (w.alloc (.cells #[.slice p l.length c] 22))):=Lib.hid ((Below.refl _ _).alloc (Nat.le_refl _) _);have HF:Hid (fmd 0 l = true):=Lib.hid rfl;generalize fmd 0 l = r at *;clear hh;go_enter Tryz.func132,Tryz.ntmps132;go_wp2_with fail;go_ret;exact ⟨(by rw [HF.out];rfl),HB.out⟩
theorem formed_k1 (w:World) (B:Nat) (v:Value) (l:List Int) (h:WAt w B v l):Calls Tryz.prog 132 #[.int .i64 1,v] w fun e w'=>e = .returned (.bool (fmd 1 l))∧Below w.heap.size w w':=by
 obtain ⟨p,c,rfl,hlc,hcm,hh⟩:=h;have HB:Hid (Below w.heap.size w (w.alloc (.cells #[.slice p l.length c] 22))):=Lib.hid ((Below.refl _ _).alloc (Nat.le_refl _) _);have HF:Hid (fmd 1 l = decide (l.length ≤ 255)):=Lib.hid rfl;generalize fmd 1 l = r at *;clear hh
 by_cases h:l.length ≤ 255
 ·have q:decide ((l.length:Int) ≤ 255) = true:=decide_eq_true (by omega);rw [decide_eq_true h] at HF;go_enter Tryz.func132,Tryz.ntmps132;go_wp2_with fail;go_ret;exact ⟨(by rw [HF.out];rfl),HB.out⟩
 ·have q:decide ((l.length:Int) ≤ 255) = false:=decide_eq_false (by omega);rw [decide_eq_false h] at HF;go_enter Tryz.func132,Tryz.ntmps132;go_wp2_with fail;go_ret;exact ⟨(by rw [HF.out];rfl),HB.out⟩
theorem formed_k6 (w:World) (B:Nat) (v:Value) (l:List Int) (hB:B ≤ w.heap.size) (h:WAt w B v l) (hw:Wds l):Calls Tryz.prog 132 #[.int .i64 6,v] w fun e w'=>e = .returned (.bool (fmd 6 l))∧Below w.heap.size w w':=by
 have HF:Hid (fmd 6 l = (decide (l.length = 1) && !smallOk (IntKind.i64.wrap (l.getD 0 0)))):=Lib.hid rfl;have d0:=wds_getD hw 0;obtain ⟨p,c,rfl,hlc,hcm,hh⟩:=h;have hz:=(MapKept.heap_alloc w (.cells #[.slice p l.length c] 22)).1;have hbz:Below w.heap.size w (w.alloc (.cells #[.slice p l.length c] 22)):=(Below.refl _ _).alloc (Nat.le_refl _) _;have HB:=Lib.hid hbz
 by_cases h4:l.length = 1
 ·have q1:((l.length:Int) != 1) = false:=by simp [h4]
  obtain ⟨g,o,rfl,_,hg,hc⟩:=RowAt.nth (w:=w) (B:=B) (l:=l) ⟨_,_,rfl,hlc,hcm,hh⟩ (by omega);have c0:=(hbz.cell (p:=⟨g,o + 0,none⟩) (show g < w.heap.size by omega)).trans (hc 0 (by omega));simp only [Nat.add_zero] at c0;have hwr:-9223372036854775808 ≤ IntKind.i64.wrap (l.getD 0 0)∧IntKind.i64.wrap (l.getD 0 0) ≤ 9223372036854775807:=⟨by simp only [IntKind.wrap_i64];omega,by simp only [IntKind.wrap_i64];omega⟩;rw [IntWalk.i64_left] at hwr HF;have HS:=Lib.hid (fun W=>Small (wrap64 (l.getD 0 0)) hwr.1 hwr.2 W);rw [decide_eq_true h4,Bool.true_and] at HF;have r0:(0:Int) < (l.length:Int):=by omega
  clear hc hh hz hbz hw hwr h4;generalize fmd 6 l = r at *;generalize l.getD 0 0 = x at *;go_enter Tryz.func132,Tryz.ntmps132;go_wp2_with fail;refine (HS.out _).mono ?_;rintro e w' ⟨rfl,rfl⟩;generalize smallOk (wrap64 x) = A at *;go_wp2_with fail;go_ret;exact ⟨(by rw [HF.out];rfl),HB.out⟩
 ·have q1:((l.length:Int) != 1) = true:=by simp;omega
  rw [decide_eq_false h4,Bool.false_and] at HF;clear hh hz hbz hw h4;generalize fmd 6 l = r at *;go_enter Tryz.func132,Tryz.ntmps132;go_wp2_with fail;go_ret;exact ⟨(by rw [HF.out];rfl),HB.out⟩
theorem formed_k7 (w:World) (B:Nat) (v:Value) (l:List Int) (hB:B ≤ w.heap.size) (h:WAt w B v l) (hw:Wds l) (hl:l.length ≤ 100000):Calls Tryz.prog 132 #[.int .i64 7,v] w fun e w'=>e = .returned (.bool (fmd 7 l))∧Below w.heap.size w w':=by
 have HF:Hid (fmd 7 l = (!decide (l.length = 0) && (wi (l.getD 0 0) 0 512 && (decide ((l.length:Int) - 1 = (soN (l.getD 0 0) + 63) / 64) && usedOk (l.getD (l.length - 1) 0) (soN (l.getD 0 0)))))):=Lib.hid rfl;have d0:=wds_getD hw 0;have d1:=wds_getD hw (l.length - 1);obtain ⟨p,c,rfl,hlc,hcm,hh⟩:=h;have hz:=(MapKept.heap_alloc w (.cells #[.slice p l.length c] 22)).1;have hbz:Below w.heap.size w (w.alloc (.cells #[.slice p l.length c] 22)):=(Below.refl _ _).alloc (Nat.le_refl _) _;have HB:=Lib.hid hbz
 by_cases h4:l.length = 0
 ·have q1:((l.length:Int) == 0) = true:=by simp [h4]
  rw [decide_eq_true h4] at HF;clear hh hz hbz hw h4 d0 d1;generalize fmd 7 l = r at *;go_enter Tryz.func132,Tryz.ntmps132;go_wp2_with fail;go_ret;exact ⟨(by rw [HF.out];rfl),HB.out⟩
 ·have q1:((l.length:Int) == 0) = false:=by simp;intro e;subst e;simp at h4
  obtain ⟨g,o,rfl,_,hg,hc⟩:=RowAt.nth (w:=w) (B:=B) (l:=l) ⟨_,_,rfl,hlc,hcm,hh⟩ (by omega);have c0:=(hbz.cell (p:=⟨g,o + 0,none⟩) (show g < w.heap.size by omega)).trans (hc 0 (by omega));have c1:=(hbz.cell (p:=⟨g,o + (l.length - 1),none⟩) (show g < w.heap.size by omega)).trans (hc (l.length - 1) (by omega));simp only [Nat.add_zero] at c0;rw [decide_eq_false h4,Bool.not_false,Bool.true_and] at HF;have r0:(0:Int) < (l.length:Int):=by omega
  have H1:=Lib.hid (fun W=>within137 _ 0 512 d0.1 d0.2 W);have H2:=Lib.hid (fun W=>SmallOf _ d0.1 d0.2 W);have hwi:wi (l.getD 0 0) 0 512 = true→soOk (l.getD 0 0) = true∧0 ≤ soN (l.getD 0 0)∧soN (l.getD 0 0) ≤ 512:=by
   intro h;unfold wi at h;rw [Bool.and_eq_true,decide_eq_true_eq] at h;exact ⟨h.1,h.2.1,h.2.2⟩
  clear hc hh hz hbz hw;generalize fmd 7 l = r at *;generalize soN (l.getD 0 0) = n at *;generalize l.getD 0 0 = x at *;generalize l.getD (l.length - 1) 0 = y at *
  cases hW:wi x 0 512
  ·rw [hW] at H1 HF;clear h4 hwi hW;go_enter Tryz.func132,Tryz.ntmps132;go_wp2_with fail;refine (H1.out _).mono ?_;rintro e w' ⟨rfl,rfl⟩;go_wp2_with fail;go_ret;exact ⟨(by rw [HF.out];rfl),HB.out⟩
  ·obtain ⟨hso,n0,n1⟩:=hwi hW;rw [hW] at H1 HF;rw [hso] at H2;have hm0:0 ≤ n % 64:=by omega
   have hm1:n % 64 < 64:=by omega
   by_cases he:(l.length:Int) - 1 = (n + 63) / 64
   ·have q2:((l.length:Int) - 1 == (n + 63) / 64) = true:=by simpa using he
    rw [decide_eq_true he] at HF;have HE:=Lib.hid he;have hlm:((l.length:Int) - 1).toNat = l.length - 1:=by omega
    have r1:(0:Int) ≤ (l.length:Int) - 1:=by omega
    have r2:(l.length:Int) - 1 < (l.length:Int):=by omega
    clear hW hso he
    by_cases hu:n % 64 = 0
    ·have q3:(n % 64 == 0) = true:=by simpa using hu
     have hus:usedOk y n = true:=by unfold usedOk;rw [decide_eq_true hu];rfl
     rw [hus] at HF;clear hus hu h4 hlm r1 r2;go_enter Tryz.func132,Tryz.ntmps132;go_wp2_with fail;refine (H1.out _).mono ?_;rintro e w' ⟨rfl,rfl⟩;go_wp2_with fail;refine (H2.out _).mono ?_;rintro e w' ⟨rfl,rfl⟩;go_wp2_with fail;go_ret;exact ⟨(by rw [HF.out];rfl),HB.out⟩
    ·have q3:(n % 64 == 0) = false:=by simpa using hu
     have HU:Hid (usedOk y n = decide (y * 2 ^ (n % 64).toNat % 18446744073709551616 = 0)):=Lib.hid (by unfold usedOk;rw [decide_eq_false hu];rfl);clear hu h4;go_enter Tryz.func132,Tryz.ntmps132;go_wp2_with fail;refine (H1.out _).mono ?_;rintro e w' ⟨rfl,rfl⟩;go_wp2_with fail;refine (H2.out _).mono ?_;rintro e w' ⟨rfl,rfl⟩;go_wp2_with fail;go_ret;exact ⟨ret1b (by rw [HF.out,HU.out,IntKind.wrap_u64,Bool.eq_iff_iff];simp),HB.out⟩
   ·have q2:((l.length:Int) - 1 == (n + 63) / 64) = false:=by simpa using he
    rw [decide_eq_false he] at HF;clear hW hso he h4;go_enter Tryz.func132,Tryz.ntmps132;go_wp2_with fail;refine (H1.out _).mono ?_;rintro e w' ⟨rfl,rfl⟩;go_wp2_with fail;refine (H2.out _).mono ?_;rintro e w' ⟨rfl,rfl⟩;go_wp2_with fail;go_ret;exact ⟨(by rw [HF.out];rfl),HB.out⟩
theorem formed113 (w:World) (B:Nat) (v:Value) (k:Int) (l:List Int) (hB:B ≤ w.heap.size) (h:WAt w B v l) (hw:Wds l) (hl:l.length ≤ 100000) (k0:0 ≤ k) (k8:k ≤ 8):Calls Tryz.prog 132 #[.int .i64 k,v] w fun e w'=>e = .returned (.bool (fmd k l))∧Below w.heap.size w w':=by
 have hk:k = 0∨k = 1∨k = 2∨k = 3∨k = 4∨k = 5∨k = 6∨k = 7∨k = 8:=by omega
 rcases hk with rfl | rfl | rfl | rfl | rfl | rfl | rfl | rfl | rfl
 ·exact formed_k0 w B v l h
 ·exact formed_k1 w B v l h
 ·exact formed_k2 w B v l hB h hw
 ·exact formed_k3 w B v l hB h hw
 ·exact formed_k4 w B v l hB h hw
 ·exact formed_k5 w B v l hB h hw
 ·exact formed_k6 w B v l hB h hw
 ·exact formed_k7 w B v l hB h hw hl
 ·exact formed_k8 w B v l hB h hw
theorem knd_rng {x:List Int} (h:IsObj x):0 ≤ knd x∧knd x ≤ 8:=by
 obtain ⟨y,r,rfl,hk,hl⟩:=h;show 0 ≤ (if y % 4 = 0 then hoK y else 0)∧(if y % 4 = 0 then hoK y else 0) ≤ 8
 split
 ·unfold hoK
  split
  ·rename_i ho;unfold hoOk at ho;have:=of_decide_eq_true ho;omega
  ·omega
 ·omega
def fxd (k:Int) (n:Nat):Nat:=if k = 0∨k = 1 then 0 else if k = 2 then min 4 n else n
theorem fixed114 (w:World) (p:Option Addr) (n c:Nat) (k:Int):Calls Tryz.prog 133 #[.int .i64 k,.slice p n c] w fun e w'=>e = .returned (.int .i64 (fxd k n))∧w = w':=by
 by_cases h0:k = 0
 ·subst h0;go_enter Tryz.func133,Tryz.ntmps133;go_wp2_with fail;go_ret;exact ⟨rfl,rfl⟩
 by_cases h1:k = 1
 ·subst h1;go_enter Tryz.func133,Tryz.ntmps133;go_wp2_with fail;go_ret;exact ⟨rfl,rfl⟩
 have q0:(k == 0) = false:=by simpa using h0
 have q1:(k == 1) = false:=by simpa using h1
 by_cases h2:k = 2
 ·subst h2
  by_cases hn:n < 4
  ·have HX:Hid (fxd 2 n = n):=Lib.hid (by show min 4 n = n;omega);have q:decide ((n:Int) < 4) = true:=decide_eq_true (by omega);have q':(n:Int) < 4:=by omega
   generalize fxd 2 n = r at *;go_enter Tryz.func133,Tryz.ntmps133;go_wp2_with fail;go_ret;exact ⟨(by rw [HX.out];rfl),rfl⟩
  ·have HX:Hid (fxd 2 n = 4):=Lib.hid (by show min 4 n = 4;omega);have q:decide ((n:Int) < 4) = false:=decide_eq_false (by omega);have q':¬ (n:Int) < 4:=by omega
   generalize fxd 2 n = r at *;go_enter Tryz.func133,Tryz.ntmps133;go_wp2_with fail;go_ret;exact ⟨(by rw [HX.out];rfl),rfl⟩
 ·have q2:(k == 2) = false:=by simpa using h2
  have HX:Hid (fxd k n = n):=Lib.hid (by unfold fxd;rw [if_neg (by omega),if_neg h2]);generalize fxd k n = r at *;clear h0 h1 h2;go_enter Tryz.func133,Tryz.ntmps133;go_wp2_with fail;go_ret;exact ⟨(by rw [HX.out];rfl),rfl⟩
end Go.Proofs.YtpnlnbolhkcnjaaGreat.cl
