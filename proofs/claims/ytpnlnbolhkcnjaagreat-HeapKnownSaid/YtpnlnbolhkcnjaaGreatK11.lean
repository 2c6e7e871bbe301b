/- TmC,TmD. No condition beyond theirs. -/
import Derived.Test.YtpnlnbolhkcnjaaGreatK01
set_option linter.unusedSimpArgs false
set_option linter.unusedVariables false
set_option maxHeartbeats 1000000
set_option maxRecDepth 100000
namespace Go.Proofs.YtpnlnbolhkcnjaaGreat.tm
open Go.RowKit mem
theorem take_step {α:Type} {a b:List α} {k:Nat} (h:a.take k = b.take k) (ha:k < a.length) (hb:k < b.length) (e:a[k] = b[k]):a.take (k + 1) = b.take (k + 1):=by
 rw [List.take_succ_eq_append_getElem ha,List.take_succ_eq_append_getElem hb,h,e]
theorem take_ne {α:Type} {a b:List α} {k:Nat} (ha:k < a.length) (hb:k < b.length) (e:a[k] ≠ b[k]):a ≠ b:=by
 intro h;subst h;exact e rfl
theorem sameZero:SameS 0:=by
 intro w B v1 v2 a b hB h1 h2;obtain ⟨p1,c1,rfl,hc1⟩:=h1;obtain ⟨p2,c2,rfl,hc2⟩:=h2;rw [Tm.nil0 a,Tm.nil0 b,eqB_t rfl];go_enter Tryz.func95,Tryz.ntmps95;go_wp2_with fail;refine wp_loop_rounds 1 ?_;rw [rounds_succ];go_wp2_with fail;go_ret;exact ⟨rfl,Below.refl _ _⟩
theorem sameSucc {n:Nat} (ih:SameS n):SameS (n + 1):=by
 intro w B v1 v2 a b hB h1 h2;obtain ⟨p1,c1,e1,hc1,hm1⟩:=h1.shape;obtain ⟨p2,c2,e2,hc2,hm2⟩:=h2.shape;unfold maxLen at hm1 hm2
 by_cases hl:a.length = b.length
 ·have hd:(((a.length:Nat):Int) != ((b.length:Nat):Int)) = false:=by simp [hl]
  have HL:=Lib.hid hl;clear hl;have H1:=Lib.hid h1;clear h1;have H2:=Lib.hid h2;clear h2;subst e1;subst e2;go_enter Tryz.func95,Tryz.ntmps95;go_wp2_with fail;go_loopw [5] (fun s wr=>∃ k:Nat,s = .int .i64 k∧k ≤ a.length∧Hid (a.take k = b.take k)∧Below w.heap.size w wr) (fun s _=>a.length - (intOf s).toNat)
  case atStart=>exact ⟨0,rfl,by omega,Lib.hid rfl,Below.refl _ _⟩
  case round =>
   obtain ⟨k,rfl,hk,ht,hb⟩:=hrel
   by_cases hlt:k < a.length
   ·have hkb:k < b.length:=by have:=HL.out;omega
    obtain ⟨g1,o1,c1',e1,_,_,hg1,hx1⟩:=(H1.out.below hb hB).at_ (by intro e;subst e;simp at hlt);obtain ⟨g2,o2,c2',e2,_,_,hg2,hx2⟩:=(H2.out.below hb hB).at_ (by intro e;subst e;simp at hkb);simp only [Value.slice.injEq] at e1 e2;obtain ⟨rfl,_,rfl⟩:=e1;obtain ⟨rfl,_,rfl⟩:=e2;obtain ⟨u1,hC1,hI1⟩:=hx1 k hlt;obtain ⟨u2,hC2,hI2⟩:=hx2 k hkb;have hS:=fun (W:World) (hW:Below w.heap.size wr W)=>same_one ih W B u1 u2 a[k] b[k] (by have:=hW.size;have:=hb.size;omega) (hI1.below hW hB) (hI2.below hW hB);obtain ⟨x0,x1,x2,x3,x4,x5,x6,x7,x8⟩:=hC1;obtain ⟨y0,y1,y2,y3,y4,y5,y6,y7,y8⟩:=hC2
    have hys:a[k] = b[k]→a.take (k + 1) = b.take (k + 1):=fun e=>take_step ht.out hlt hkb e;have hno:a[k] ≠ b[k]→eqB a b = false:=fun e=>eqB_f (take_ne hlt hkb e);have HYS:=Lib.hid hys;clear hys;have HNO:=Lib.hid hno;clear hno;clear hx1 hx2 hI1 hI2;unfold aggV at hS;have HS:=Lib.hid hS;clear hS;generalize a[k] = x at *;generalize b[k] = y at *;generalize x.f = xf at *;generalize y.f = yf at *;have hb':Below w.heap.size wr wr.drew:=⟨rfl,rfl,rfl,Nat.le_refl _,fun _ _=>rfl⟩;go_wp2_with fail;go_still_tail 8,(by kernel_rfl)
    change wpList _ _ _ _ _ wr.drew;have hS:=HS.out wr.drew hb';have hb2:Below w.heap.size w wr.drew:=hb.trans hb';clear x0 x1 x2 x3 x4 x5 x6 x7 x8 y0 y1 y2 y3 y4 y5 y6 y7 y8;have hz:=hb2.size;generalize wr.drew = w2 at *;go_wp2_with fail;refine hS.mono ?_;rintro e w3 ⟨rfl,hb3⟩;have hb4:Below w.heap.size w w3:=hb2.trans (hb3.mono hz)
    by_cases e:x = y
    ·rw [eqB_t e];have HT:=Lib.hid (HYS.out e);clear hS;go_wp2_with fail;go_roundw
     case rel=>exact ⟨k + 1,by go_num,by omega,HT,hb4⟩
     case measure=>simp [intOf];omega
    ·rw [eqB_f e];have HN:=Lib.hid (HNO.out e);clear hS;go_wp2_with fail;go_ret;exact ⟨ret1b HN.out.symm,hb4⟩
   ·have hfin:a = b:=by
     have:=ht.out;rwa [List.take_of_length_le (by omega),List.take_of_length_le (by have:=HL.out;omega)] at this
    have HF:=Lib.hid (eqB_t hfin);clear hfin;go_wp2_with fail;go_ret;exact ⟨ret1b HF.out.symm,hb⟩
 ·have hd:(((a.length:Nat):Int) != ((b.length:Nat):Int)) = true:=by simp;omega
  have hfin:=eqB_f (fun e:a = b=>hl (by rw [e]));have HF:=Lib.hid hfin;clear hfin;subst e1;subst e2;go_enter Tryz.func95,Tryz.ntmps95;go_wp2_with fail;go_ret;exact ⟨ret1b HF.out.symm,Below.refl _ _⟩
theorem sameList (n:Nat):SameS n:=by
 induction n with
 | zero=>exact sameZero
 | succ n ih=>exact sameSucc ih
theorem sameOne {n:Nat} (w:World) (B:Nat) (v1 v2:Value) (a b:Tm (n + 1)) (hB:B ≤ w.heap.size) (h1:ItemsAt w B n v1 a.items) (h2:ItemsAt w B n v2 b.items) :
 Calls Tryz.prog 38 #[aggV a.f v1,aggV b.f v2] w (BPost (eqB a b) w):=same_one (sameList n) w B v1 v2 a b hB h1 h2
def leftB (f:TF) (m:Int):Prop:=m < (f.name.size:Int)∨m < (f.func.size:Int)∨m < (f.bytes.size:Int)
instance (f:TF) (m:Int):Decidable (leftB f m):=by unfold leftB;infer_instance
end Go.Proofs.YtpnlnbolhkcnjaaGreat.tm
