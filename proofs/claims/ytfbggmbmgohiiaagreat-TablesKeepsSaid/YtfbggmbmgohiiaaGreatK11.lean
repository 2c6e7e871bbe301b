/- Texts of this seat, one behind the other: TbM. No condition beyond theirs. -/
import Derived.Test.YtfbggmbmgohiiaaGreatK10
set_option linter.unusedSimpArgs false
set_option linter.unusedVariables false
set_option maxHeartbeats 4000000
set_option maxRecDepth 100000
namespace Go.Proofs.YtfbggmbmgohiiaaGreat.tb
open Go.RowKit mem rec tm names
def AlikeS (n:Nat):Prop:=∀ (w:World) (B:Nat) (v1 v2:Value) (a b:List (Tm n)),B ≤ w.heap.size→ItemsAt w B n v1 a→ItemsAt w B n v2 b→Calls Tryz.prog 94 #[v1,v2,.func (.func 66) #[] #[]] w (BPost (eqB a b) w)
theorem alike_one {n:Nat} (ih:AlikeS n) (w:World) (B:Nat) (v1 v2:Value) (a b:Tm (n + 1)) (hB:B ≤ w.heap.size) (h1:ItemsAt w B n v1 a.items) (h2:ItemsAt w B n v2 b.items) :
 Calls Tryz.prog 66 #[aggV a.f v1,aggV b.f v2] w (BPost (eqB a b) w):=by
 have hno:a.f ≠ b.f→eqB a b = false:=fun h=>eqB_f (fun e=>h (by rw [e]))
 have hin:a.f = b.f→eqB a b = eqB a.items b.items:=fun h=>by
  by_cases e:a.items = b.items
  ·rw [eqB_t e,eqB_t (Tm.ext h e)]
  ·rw [eqB_f e,eqB_f (fun e2=>e (by rw [e2]))]
 have hI:=fun (W:World) (hb:Below w.heap.size w W)=>ih W B v1 v2 a.items b.items (Nat.le_trans hB hb.size) (h1.below hb hB) (h2.below hb hB)
 clear ih h1 h2
 generalize a.items = l1 at *
 generalize b.items = l2 at *
 generalize eqB a b = r at *
 generalize a.f = x at *
 generalize b.f = y at *
 obtain ⟨k1,i1,g1,n1,f1,a1,b1,s1⟩:=x
 obtain ⟨k2,i2,g2,n2,f2,a2,b2,s2⟩:=y
 unfold aggV
 dsimp only
 by_cases e:k1 ≠ k2
 ·have hq:(k1 == k2) = false:=by simp [e]
  rw [hno (by intro h;simp only [TF.mk.injEq] at h;simp_all)]
  clear hno hin hI e
  go_enter Tryz.func66,Tryz.ntmps66
  go_wp2_with fail
  go_ret
  exact ⟨rfl,((Below.refl _ _).alloc (Nat.le_refl _) _).alloc (by simp) _⟩
 have e:=Classical.not_not.1 e
 subst e
 have qk:(k1 == k1) = true:=by first | exact bytes_self _ | simp
 by_cases e:i1 ≠ i2
 ·have hq:(i1 == i2) = false:=by simp [e]
  rw [hno (by intro h;simp only [TF.mk.injEq] at h;simp_all)]
  clear hno hin hI e
  go_enter Tryz.func66,Tryz.ntmps66
  go_wp2_with fail
  go_ret
  exact ⟨rfl,((Below.refl _ _).alloc (Nat.le_refl _) _).alloc (by simp) _⟩
 have e:=Classical.not_not.1 e
 subst e
 have qi:(i1 == i1) = true:=by first | exact bytes_self _ | simp
 by_cases e:g1 ≠ g2
 ·have hq:(g1 == g2) = false:=by simp [e]
  rw [hno (by intro h;simp only [TF.mk.injEq] at h;simp_all)]
  clear hno hin hI e
  go_enter Tryz.func66,Tryz.ntmps66
  go_wp2_with fail
  go_ret
  exact ⟨rfl,((Below.refl _ _).alloc (Nat.le_refl _) _).alloc (by simp) _⟩
 have e:=Classical.not_not.1 e
 subst e
 have qg:(g1 == g1) = true:=by first | exact bytes_self _ | simp
 by_cases e:n1 ≠ n2
 ·have hq:(n1.toList == n2.toList) = false:=str_ne e
  have hq2:¬ n1.toList = n2.toList:=str_ne' e
  rw [hno (by intro h;simp only [TF.mk.injEq] at h;simp_all)]
  clear hno hin hI e
  go_enter Tryz.func66,Tryz.ntmps66
  go_wp2_with fail
  go_ret
  exact ⟨rfl,((Below.refl _ _).alloc (Nat.le_refl _) _).alloc (by simp) _⟩
 have e:=Classical.not_not.1 e
 subst e
 have qn:(n1 == n1) = true:=by first | exact bytes_self _ | simp
 by_cases e:f1 ≠ f2
 ·have hq:(f1.toList == f2.toList) = false:=str_ne e
  have hq2:¬ f1.toList = f2.toList:=str_ne' e
  rw [hno (by intro h;simp only [TF.mk.injEq] at h;simp_all)]
  clear hno hin hI e
  go_enter Tryz.func66,Tryz.ntmps66
  go_wp2_with fail
  go_ret
  exact ⟨rfl,((Below.refl _ _).alloc (Nat.le_refl _) _).alloc (by simp) _⟩
 have e:=Classical.not_not.1 e
 subst e
 have qf:(f1 == f1) = true:=by first | exact bytes_self _ | simp
 by_cases e:a1 ≠ a2
 ·have hq:(a1 == a2) = false:=by simp [e]
  rw [hno (by intro h;simp only [TF.mk.injEq] at h;simp_all)]
  clear hno hin hI e
  go_enter Tryz.func66,Tryz.ntmps66
  go_wp2_with fail
  go_ret
  exact ⟨rfl,((Below.refl _ _).alloc (Nat.le_refl _) _).alloc (by simp) _⟩
 have e:=Classical.not_not.1 e
 subst e
 have qa:(a1 == a1) = true:=by first | exact bytes_self _ | simp
 by_cases e:b1 ≠ b2
 ·have hq:(b1.toList == b2.toList) = false:=str_ne e
  have hq2:¬ b1.toList = b2.toList:=str_ne' e
  rw [hno (by intro h;simp only [TF.mk.injEq] at h;simp_all)]
  clear hno hin hI e
  go_enter Tryz.func66,Tryz.ntmps66
  go_wp2_with fail
  go_ret
  exact ⟨rfl,((Below.refl _ _).alloc (Nat.le_refl _) _).alloc (by simp) _⟩
 have e:=Classical.not_not.1 e
 subst e
 have qb:(b1 == b1) = true:=by first | exact bytes_self _ | simp
 by_cases e:s1 ≠ s2
 ·have hq:(s1 == s2) = false:=by simp [e]
  rw [hno (by intro h;simp only [TF.mk.injEq] at h;simp_all)]
  clear hno hin hI e
  go_enter Tryz.func66,Tryz.ntmps66
  go_wp2_with fail
  go_ret
  exact ⟨rfl,((Below.refl _ _).alloc (Nat.le_refl _) _).alloc (by simp) _⟩
 have e:=Classical.not_not.1 e
 subst e
 have qs:(s1 == s1) = true:=by first | exact bytes_self _ | simp
 rw [hin rfl]
 clear hno hin
 go_enter Tryz.func66,Tryz.ntmps66
 go_wp2_with fail
 refine (hI _ (((Below.refl _ _).alloc (Nat.le_refl _) _).alloc (by simp) _)).mono ?_
 rintro e w' ⟨rfl,hb⟩
 go_wp2_with fail
 go_ret
 exact ⟨rfl,(((Below.refl _ _).alloc (Nat.le_refl _) _).alloc (by simp) _).trans (hb.mono (by simp;omega))⟩
theorem alikeEl {n:Nat} (ih:∀ m,n = m + 1→AlikeS m) {w:World} {B:Nat} {p1 p2:Option Addr} {n1 n2 c1 c2:Nat} {a b:List (Tm n)} (hB:B ≤ w.heap.size) (h1:ItemsAt w B n (.slice p1 n1 c1) a) (h2:ItemsAt w B n (.slice p2 n2 c2) b) (k:Nat) (ha:k < a.length) (hb:k < b.length) :
 ∃ g1 o1 x q1 m1 d1 g2 o2 y q2 m2 d2,p1 = some ⟨g1,o1,none⟩∧p2 = some ⟨g2,o2,none⟩∧g1 < B∧g2 < B∧Cells w g1 (o1 + k * 9) x (.slice q1 m1 d1)∧Cells w g2 (o2 + k * 9) y (.slice q2 m2 d2) ∧
  ∀ W,Below w.heap.size w W→Calls Tryz.prog 66 #[aggV x (.slice q1 m1 d1),aggV y (.slice q2 m2 d2)] W (BPost (eqB a[k] b[k]) W):=by
 cases n with
 | zero=>rw [Tm.nil0 a] at ha;exact absurd ha (by simp)
 | succ n =>
  obtain ⟨g1,o1,c1',e1,_,_,hg1,hx1⟩:=h1.at_ (by intro e;subst e;simp at ha)
  obtain ⟨g2,o2,c2',e2,_,_,hg2,hx2⟩:=h2.at_ (by intro e;subst e;simp at hb)
  simp only [Value.slice.injEq] at e1 e2
  obtain ⟨u1,hC1,hI1⟩:=hx1 k ha
  obtain ⟨u2,hC2,hI2⟩:=hx2 k hb
  obtain ⟨q1,d1,rfl,_,_⟩:=hI1.shape
  obtain ⟨q2,d2,rfl,_,_⟩:=hI2.shape
  exact ⟨g1,o1,a[k].f,q1,_,d1,g2,o2,b[k].f,q2,_,d2,e1.1,e2.1,hg1,hg2,hC1,hC2,fun W hW=>alike_one (ih n rfl) W B _ _ a[k] b[k] (Nat.le_trans hB hW.size) (hI1.below hW hB) (hI2.below hW hB)⟩
def AlikeI {n:Nat} (a b:List (Tm n)) (w:World) (m:Nat) (iv:Value) (wr:World):Prop:=∃ k:Nat,iv = .int .i64 (k:Int)∧k ≤ a.length∧m = a.length - k∧a.take k = b.take k∧Below w.heap.size w wr
theorem alikeStep {n:Nat} (ih:∀ m,n = m + 1→AlikeS m):AlikeS n:=by
 intro w B v1 v2 a b hB h1 h2
 obtain ⟨p1,c1,rfl,hc1,hm1⟩:=h1.shape
 obtain ⟨p2,c2,rfl,hc2,hm2⟩:=h2.shape
 unfold maxLen at hm1 hm2
 by_cases hl:a.length = b.length
 ·have hd:(((a.length:Nat):Int) != ((b.length:Nat):Int)) = false:=by simp [hl]
  have HL:=Lib.hid hl;clear hl
  have H1:=Lib.hid h1;clear h1
  have H2:=Lib.hid h2;clear h2
  have H00:Hid (AlikeI a b w a.length (.int .i64 0) w):=Lib.hid ⟨0,rfl,Nat.zero_le _,rfl,rfl,Below.refl _ _⟩
  go_enter Tryz.func94,Tryz.ntmps94
  go_wp2_with fail
  go_loopg [16] a.length (fun m iv wr=>Hid (AlikeI a b w m iv wr))
  case atStart=>exact H00
  case round =>
   obtain ⟨k,rfl,hk,hm,ht,hb⟩:=hrel.out
   clear hrel H00
   have HM:=Lib.hid hm
   have HT:=Lib.hid ht
   have HB:=Lib.hid hb
   have HBz:=Lib.hid hb.size
   clear hm ht
   by_cases hlt:k < a.length
   ·have hkb:k < b.length:=by have:=HL.out;omega
    obtain ⟨g1,o1,x,q1,m1,d1,g2,o2,y,q2,m2,d2,rfl,rfl,hg1,hg2,hC1,hC2,hCall⟩:=alikeEl ih (Nat.le_trans hB hb.size) (H1.out.below hb hB) (H2.out.below hb hB) k hlt hkb
    have HCall:=Lib.hid hCall
    have HYS:=Lib.hid (fun e:a[k] = b[k]=>take_step HT.out hlt hkb e)
    have HNO:=Lib.hid (fun e:a[k] ≠ b[k]=>eqB_f (take_ne hlt hkb e))
    clear hCall
    generalize a[k] = ak at *
    generalize b[k] = bk at *
    obtain ⟨x0,x1,x2,x3,x4,x5,x6,x7,x8⟩:=hC1
    have HG2:=Lib.hid (Nat.lt_of_lt_of_le hg2 (Nat.le_trans hB hb.size))
    have HC2:=Lib.hid hC2
    obtain ⟨k1,i1,j1,n1,f1,a1,b1,s1⟩:=x
    dsimp only at x0 x1 x2 x3 x4 x5 x6 x7 x8
    unfold aggV at HCall
    dsimp only at HCall
    have HBx:=Lib.hid (belowA (Below.refl wr.heap.size wr) (cells9 ⟨k1,i1,j1,n1,f1,a1,b1,s1⟩ (.slice q1 m1 d1)) (Nat.le_refl _))
    have HNx:=Lib.hid (nine_of (alloc_new wr (cells9 ⟨k1,i1,j1,n1,f1,a1,b1,s1⟩ (.slice q1 m1 d1))))
    have HC2x:=Lib.hid (HC2.out.same (HBx.out.block _ HG2.out))
    unfold cells9 at HBx HNx HC2x
    dsimp only at HBx HNx HC2x
    clear hC2 hg1 hg2 hb
    go_upto_region 6 with (fail)
    clear x0 x1 x2 x3 x4 x5 x6 x7 x8
    generalize (wr.alloc (.cells #[.int .i64 k1,.int .i64 i1,.int .i64 j1,.string n1,.string f1,.int .i64 a1,.slice q1 m1 d1,.string b1,.int .i64 s1] 24)) = W1 at *
    generalize hz:wr.heap.size = z at *
    have HZ:=Lib.hid hz
    clear hz
    obtain ⟨x0,x1,x2,x3,x4,x5,x6,x7,x8,xf⟩:=HNx.out
    obtain ⟨y0,y1,y2,y3,y4,y5,y6,y7,y8⟩:=HC2x.out
    obtain ⟨k2,i2,j2,n2,f2,a2,b2,s2⟩:=y
    dsimp only at x0 x1 x2 x3 x4 x5 x6 x7 x8 y0 y1 y2 y3 y4 y5 y6 y7 y8 HCall
    go_still_tail 6,(by kernel_rfl)
    change wpList _ _ _ _ _ W1.drew
    clear x0 x1 x2 x3 x4 x5 x6 x7 x8 xf y0 y1 y2 y3 y4 y5 y6 y7 y8
    have hbd:=belowD HBx.out
    have HBd:=Lib.hid hbd
    go_wp2_with fail
    refine (HCall.out _ hbd).mono ?_
    rintro e w3 ⟨rfl,hb3⟩
    have HB4:Hid (Below w.heap.size w w3):=Lib.hid (HB.out.trans ((hbd.trans (hb3.mono (by have:=HZ.out;have:=hbd.size;omega))).mono (by have:=HBz.out;have:=HZ.out;omega)))
    clear hbd hb3
    have hll:a.length ≤ 9223372036854775807:=by omega
    by_cases e:ak = bk
    ·rw [eqB_t e]
     have HTk:=Lib.hid (HYS.out e)
     clear e
     go_wp2_with fail
     go_roundg (a.length - (k + 1))
     case measure=>have:=HM.out;omega
     case rel=>exact Lib.hid ⟨k + 1,by go_num,by omega,rfl,HTk.out,HB4.out⟩
    ·rw [eqB_f e]
     have HN:=Lib.hid (HNO.out e)
     clear e
     go_wp2_with fail
     go_ret
     exact ⟨tm.ret1b HN.out.symm,HB4.out⟩
   ·have hfin:a = b:=by
     have:=HT.out
     rwa [List.take_of_length_le (by omega),List.take_of_length_le (by have:=HL.out;omega)] at this
    have HF:=Lib.hid (eqB_t hfin);clear hfin
    go_wp2_with fail
    go_ret
    exact ⟨tm.ret1b HF.out.symm,HB.out⟩
 ·have hd:(((a.length:Nat):Int) != ((b.length:Nat):Int)) = true:=by simp;omega
  have hfin:=eqB_f (fun e:a = b=>hl (by rw [e]))
  have HF:=Lib.hid hfin;clear hfin
  go_enter Tryz.func94,Tryz.ntmps94
  go_wp2_with fail
  go_ret
  exact ⟨tm.ret1b HF.out.symm,Below.refl _ _⟩
theorem alikeAll:∀ n,AlikeS n:=by
 intro n
 induction n with
 | zero=>exact alikeStep (fun m h=>by omega)
 | succ n ih => exact alikeStep (fun m h => by obtain rfl : n = m := by omega
                                               exact ih)
theorem Same66 {n:Nat} (w:World) (B:Nat) (v1 v2:Value) (a b:Tm (n + 1)) (hB:B ≤ w.heap.size) (h1:ItemsAt w B n v1 a.items) (h2:ItemsAt w B n v2 b.items) :
 Calls Tryz.prog 66 #[aggV a.f v1,aggV b.f v2] w (BPost (eqB a b) w):=alike_one (alikeAll n) w B v1 v2 a b hB h1 h2
end Go.Proofs.YtfbggmbmgohiiaaGreat.tb
