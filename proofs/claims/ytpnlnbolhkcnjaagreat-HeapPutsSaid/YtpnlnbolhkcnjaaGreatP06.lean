/- TmB,TmC. No condition beyond theirs. -/
import Derived.Test.YtpnlnbolhkcnjaaGreatP00
import Derived.Deep.QuietTactic
import Derived.BigQuiet
import Derived.WalkSpells
import Derived.StillTailTactics
import Derived.Outline
import Derived.IntWalk
set_option linter.unusedSimpArgs false
set_option linter.unusedVariables false
set_option maxHeartbeats 1000000
set_option maxRecDepth 100000
namespace Go.Proofs.YtpnlnbolhkcnjaaGreat.tm
open Go.RowKit mem
noncomputable def eqB {α:Type} (a b:α):Bool:=@decide (a = b) (Classical.propDecidable _)
theorem eqB_t {α:Type} {a b:α} (h:a = b):eqB a b = true:=@decide_eq_true _ (Classical.propDecidable _) h
theorem eqB_f {α:Type} {a b:α} (h:a ≠ b):eqB a b = false:=@decide_eq_false _ (Classical.propDecidable _) h
theorem ret1 {k:IntKind} {a b:Int} (h:a = b):Ending.returned (.int k a) = .returned (.int k b):=by rw [h]
theorem ret1b {a b:Bool} (h:a = b):Ending.returned (.bool a) = .returned (.bool b):=by rw [h]
def BPost (b:Bool) (w:World) (e:Ending) (w':World):Prop:=e = .returned (.bool b)∧Below w.heap.size w w'
theorem str_ne' {a b:ByteArray} (h:a ≠ b):¬ a.toList = b.toList:=by
 intro e;rw [ByteArray.toList_eq,ByteArray.toList_eq] at e;exact h (ByteArray.ext (Array.ext' e))
theorem str_ne {a b:ByteArray} (h:a ≠ b):(a.toList == b.toList) = false:=by
 cases hh:a.toList == b.toList with
 | false=>rfl
 | true=>exact absurd (eq_of_beq hh) (str_ne' h)
theorem bytes_self (a:ByteArray):(a == a) = true:=(bytes_beq a a).2 rfl
def SameS (n:Nat):Prop:=∀ (w:World) (B:Nat) (v1 v2:Value) (a b:List (Tm n)),B ≤ w.heap.size→ItemsAt w B n v1 a→ItemsAt w B n v2 b→Calls Tryz.prog 95 #[v1,v2] w (BPost (eqB a b) w)
theorem same_one {n:Nat} (ih:SameS n) (w:World) (B:Nat) (v1 v2:Value) (a b:Tm (n + 1)) (hB:B ≤ w.heap.size) (h1:ItemsAt w B n v1 a.items) (h2:ItemsAt w B n v2 b.items) :
 Calls Tryz.prog 38 #[aggV a.f v1,aggV b.f v2] w (BPost (eqB a b) w):=by
 have hno:a.f ≠ b.f→eqB a b = false:=fun h=>eqB_f (fun e=>h (by rw [e]));have hin:a.f = b.f→eqB a b = eqB a.items b.items:=fun h=>by
  by_cases e:a.items = b.items
  ·rw [eqB_t e,eqB_t (Tm.ext h e)]
  ·rw [eqB_f e,eqB_f (fun e2=>e (by rw [e2]))]
 have hI:=fun (W:World) (hb:Below w.heap.size w W)=>ih W B v1 v2 a.items b.items (Nat.le_trans hB hb.size) (h1.below hb hB) (h2.below hb hB);clear ih h1 h2;generalize a.items = l1 at *;generalize b.items = l2 at *;generalize eqB a b = r at *;generalize a.f = x at *;generalize b.f = y at *;obtain ⟨k1,i1,g1,n1,f1,a1,b1,s1⟩:=x;obtain ⟨k2,i2,g2,n2,f2,a2,b2,s2⟩:=y;unfold aggV;dsimp only
 by_cases e:k1 ≠ k2
 ·have hq:(k1 == k2) = false:=by simp [e]
  rw [hno (by intro h;simp only [TF.mk.injEq] at h;simp_all)];clear hno hin hI e;go_enter Tryz.func38,Tryz.ntmps38;go_wp2_with fail;go_ret;exact ⟨rfl,((Below.refl _ _).alloc (Nat.le_refl _) _).alloc (by simp) _⟩
 have e:=Classical.not_not.1 e;subst e;have qk:(k1 == k1) = true:=by first | exact bytes_self _ | simp
 by_cases e:i1 ≠ i2
 ·have hq:(i1 == i2) = false:=by simp [e]
  rw [hno (by intro h;simp only [TF.mk.injEq] at h;simp_all)];clear hno hin hI e;go_enter Tryz.func38,Tryz.ntmps38;go_wp2_with fail;go_ret;exact ⟨rfl,((Below.refl _ _).alloc (Nat.le_refl _) _).alloc (by simp) _⟩
 have e:=Classical.not_not.1 e;subst e;have qi:(i1 == i1) = true:=by first | exact bytes_self _ | simp
 by_cases e:g1 ≠ g2
 ·have hq:(g1 == g2) = false:=by simp [e]
  rw [hno (by intro h;simp only [TF.mk.injEq] at h;simp_all)];clear hno hin hI e;go_enter Tryz.func38,Tryz.ntmps38;go_wp2_with fail;go_ret;exact ⟨rfl,((Below.refl _ _).alloc (Nat.le_refl _) _).alloc (by simp) _⟩
 have e:=Classical.not_not.1 e;subst e;have qg:(g1 == g1) = true:=by first | exact bytes_self _ | simp
 by_cases e:n1 ≠ n2
 ·have hq:(n1.toList == n2.toList) = false:=str_ne e;have hq2:¬ n1.toList = n2.toList:=str_ne' e;rw [hno (by intro h;simp only [TF.mk.injEq] at h;simp_all)];clear hno hin hI e;go_enter Tryz.func38,Tryz.ntmps38;go_wp2_with fail;go_ret;exact ⟨rfl,((Below.refl _ _).alloc (Nat.le_refl _) _).alloc (by simp) _⟩
 have e:=Classical.not_not.1 e;subst e;have qn:(n1 == n1) = true:=by first | exact bytes_self _ | simp
 by_cases e:f1 ≠ f2
 ·have hq:(f1.toList == f2.toList) = false:=str_ne e;have hq2:¬ f1.toList = f2.toList:=str_ne' e;rw [hno (by intro h;simp only [TF.mk.injEq] at h;simp_all)];clear hno hin hI e;go_enter Tryz.func38,Tryz.ntmps38;go_wp2_with fail;go_ret;exact ⟨rfl,((Below.refl _ _).alloc (Nat.le_refl _) _).alloc (by simp) _⟩
 have e:=Classical.not_not.1 e;subst e;have qf:(f1 == f1) = true:=by first | exact bytes_self _ | simp
 by_cases e:a1 ≠ a2
 ·have hq:(a1 == a2) = false:=by simp [e]
  rw [hno (by intro h;simp only [TF.mk.injEq] at h;simp_all)];clear hno hin hI e;go_enter Tryz.func38,Tryz.ntmps38;go_wp2_with fail;go_ret;exact ⟨rfl,((Below.refl _ _).alloc (Nat.le_refl _) _).alloc (by simp) _⟩
 have e:=Classical.not_not.1 e;subst e;have qa:(a1 == a1) = true:=by first | exact bytes_self _ | simp
 by_cases e:b1 ≠ b2
 ·have hq:(b1.toList == b2.toList) = false:=str_ne e;have hq2:¬ b1.toList = b2.toList:=str_ne' e;rw [hno (by intro h;simp only [TF.mk.injEq] at h;simp_all)];clear hno hin hI e;go_enter Tryz.func38,Tryz.ntmps38;go_wp2_with fail;go_ret;exact ⟨rfl,((Below.refl _ _).alloc (Nat.le_refl _) _).alloc (by simp) _⟩
 have e:=Classical.not_not.1 e;subst e;have qb:(b1 == b1) = true:=by first | exact bytes_self _ | simp
 by_cases e:s1 ≠ s2
 ·have hq:(s1 == s2) = false:=by simp [e]
  rw [hno (by intro h;simp only [TF.mk.injEq] at h;simp_all)];clear hno hin hI e;go_enter Tryz.func38,Tryz.ntmps38;go_wp2_with fail;go_ret;exact ⟨rfl,((Below.refl _ _).alloc (Nat.le_refl _) _).alloc (by simp) _⟩
 have e:=Classical.not_not.1 e;subst e;have qs:(s1 == s1) = true:=by first | exact bytes_self _ | simp
 rw [hin rfl];clear hno hin;go_enter Tryz.func38,Tryz.ntmps38;go_wp2_with fail;refine (hI _ (((Below.refl _ _).alloc (Nat.le_refl _) _).alloc (by simp) _)).mono ?_;rintro e w' ⟨rfl,hb⟩;go_wp2_with fail;go_ret;exact ⟨rfl,(((Below.refl _ _).alloc (Nat.le_refl _) _).alloc (by simp) _).trans (hb.mono (by simp;omega))⟩
theorem take_step {α:Type} {a b:List α} {k:Nat} (h:a.take k = b.take k) (ha:k < a.length) (hb:k < b.length) (e:a[k] = b[k]):a.take (k + 1) = b.take (k + 1):=by
 rw [List.take_succ_eq_append_getElem ha,List.take_succ_eq_append_getElem hb,h,e]
theorem take_ne {α:Type} {a b:List α} {k:Nat} (ha:k < a.length) (hb:k < b.length) (e:a[k] ≠ b[k]):a ≠ b:=by
 intro h;subst h;exact e rfl
theorem sameZero:SameS 0:=by
 intro w B v1 v2 a b hB h1 h2;obtain ⟨p1,c1,rfl,hc1⟩:=h1;obtain ⟨p2,c2,rfl,hc2⟩:=h2;rw [Tm.nil0 a,Tm.nil0 b,eqB_t rfl];go_enter Tryz.func95,Tryz.ntmps95;go_wp2_with fail;refine wp_loop_rounds 1 ?_;rw [rounds_succ];go_wp2_with fail;go_ret;exact ⟨rfl,Below.refl _ _⟩
theorem sameSucc {n:Nat} (ih:SameS n):SameS (n + 1):=by
 intro w B v1 v2 a b hB h1 h2;obtain ⟨p1,c1,e1,hc1,hm1⟩:=h1.shape;obtain ⟨p2,c2,e2,hc2,hm2⟩:=h2.shape;unfold maxLen at hm1 hm2
 by_cases hl:a.length = b.length
 ·have hd:(((a.length:Nat):Int) != ((b.length:Nat):Int)) = false:=by simp [hl]
  have HL:=Lib.hid hl;clear hl;have H1:=Lib.hid h1;clear h1;have H2:=Lib.hid h2;clear h2;subst e1;subst e2;go_enter Tryz.func95,Tryz.ntmps95;go_wp2_with fail;go_loopw [5] (fun s wr=>∃ k:Nat,s = .int .i64 k∧k ≤ a.length∧Hid (a.take k = b.take k)∧Below w.heap.size w wr) (fun s _=>a.length - (intOf s).toNat)
  case atStart=>exact ⟨0,rfl,by omega,Lib.hid rfl,Below.refl _ _⟩
  case round =>
   obtain ⟨k,rfl,hk,ht,hb⟩:=hrel
   by_cases hlt:k < a.length
   ·have hkb:k < b.length:=by have:=HL.out;omega
    obtain ⟨g1,o1,c1',e1,_,_,hg1,hx1⟩:=(H1.out.below hb hB).at_ (by intro e;subst e;simp at hlt);obtain ⟨g2,o2,c2',e2,_,_,hg2,hx2⟩:=(H2.out.below hb hB).at_ (by intro e;subst e;simp at hkb);simp only [Value.slice.injEq] at e1 e2;obtain ⟨rfl,_,rfl⟩:=e1;obtain ⟨rfl,_,rfl⟩:=e2;obtain ⟨u1,hC1,hI1⟩:=hx1 k hlt;obtain ⟨u2,hC2,hI2⟩:=hx2 k hkb;have hS:=fun (W:World) (hW:Below w.heap.size wr W)=>same_one ih W B u1 u2 a[k] b[k] (by have:=hW.size;have:=hb.size;omega) (hI1.below hW hB) (hI2.below hW hB);obtain ⟨x0,x1,x2,x3,x4,x5,x6,x7,x8⟩:=hC1;obtain ⟨y0,y1,y2,y3,y4,y5,y6,y7,y8⟩:=hC2
    have hys:a[k] = b[k]→a.take (k + 1) = b.take (k + 1):=fun e=>take_step ht.out hlt hkb e;have hno:a[k] ≠ b[k]→eqB a b = false:=fun e=>eqB_f (take_ne hlt hkb e);have HYS:=Lib.hid hys;clear hys;have HNO:=Lib.hid hno;clear hno;clear hx1 hx2 hI1 hI2;unfold aggV at hS;have HS:=Lib.hid hS;clear hS;generalize a[k] = x at *;generalize b[k] = y at *;generalize x.f = xf at *;generalize y.f = yf at *;have hb':Below w.heap.size wr wr.drew:=⟨rfl,rfl,rfl,Nat.le_refl _,fun _ _=>rfl⟩;go_wp2_with fail;go_still_tail 8,(by kernel_rfl)
    change wpList _ _ _ _ _ wr.drew;have hS:=HS.out wr.drew hb';have hb2:Below w.heap.size w wr.drew:=hb.trans hb';clear x0 x1 x2 x3 x4 x5 x6 x7 x8 y0 y1 y2 y3 y4 y5 y6 y7 y8;have hz:=hb2.size;generalize wr.drew = w2 at *;go_wp2_with fail;refine hS.mono ?_;rintro e w3 ⟨rfl,hb3⟩;have hb4:Below w.heap.size w w3:=hb2.trans (hb3.mono hz)
    by_cases e:x = y
    ·rw [eqB_t e];have HT:=Lib.hid (HYS.out e);clear hS;go_wp2_with fail;go_roundw
     case rel=>exact ⟨k + 1,by go_num,by omega,HT,hb4⟩
     case measure=>simp [intOf];omega
    ·rw [eqB_f e];have HN:=Lib.hid (HNO.out e);clear hS;go_wp2_with fail;go_ret;exact ⟨ret1b HN.out.symm,hb4⟩
   ·have hfin:a = b:=by
     have:=ht.out;rwa [List.take_of_length_le (by omega),List.take_of_length_le (by have:=HL.out;omega)] at this
    have HF:=Lib.hid (eqB_t hfin);clear hfin;go_wp2_with fail;go_ret;exact ⟨ret1b HF.out.symm,hb⟩
 ·have hd:(((a.length:Nat):Int) != ((b.length:Nat):Int)) = true:=by simp;omega
  have hfin:=eqB_f (fun e:a = b=>hl (by rw [e]));have HF:=Lib.hid hfin;clear hfin;subst e1;subst e2;go_enter Tryz.func95,Tryz.ntmps95;go_wp2_with fail;go_ret;exact ⟨ret1b HF.out.symm,Below.refl _ _⟩
theorem sameList (n:Nat):SameS n:=by
 induction n with
 | zero=>exact sameZero
 | succ n ih=>exact sameSucc ih
theorem sameOne {n:Nat} (w:World) (B:Nat) (v1 v2:Value) (a b:Tm (n + 1)) (hB:B ≤ w.heap.size) (h1:ItemsAt w B n v1 a.items) (h2:ItemsAt w B n v2 b.items) :
 Calls Tryz.prog 38 #[aggV a.f v1,aggV b.f v2] w (BPost (eqB a b) w):=same_one (sameList n) w B v1 v2 a b hB h1 h2
end Go.Proofs.YtpnlnbolhkcnjaaGreat.tm
