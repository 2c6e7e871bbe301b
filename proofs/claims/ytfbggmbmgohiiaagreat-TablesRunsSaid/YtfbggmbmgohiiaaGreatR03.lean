/- Nam. No condition beyond theirs. -/
import Derived.Test.YtfbggmbmgohiiaaGreatR02
import Derived.Laws.Strings
set_option linter.unusedSimpArgs false
set_option linter.unusedVariables false
set_option maxHeartbeats 1000000
namespace Go.Proofs.YtfbggmbmgohiiaaGreat.names
open Go.RowKit
def tQ(k:Nat)(c:Nat):Bool:=decide (97≤c∧c≤122)||(decide (0<k)&&(decide (65≤c∧c≤90)||decide (48≤c∧c≤57)||decide (c=95)||decide (c=64)))
def b_(s:ByteArray):Bool:=decide (1≤s.size∧s.size≤32∧∀k:Nat,(h:k<s.size)→tQ k (s[k]'h).toNat=true)
theorem iH{s:ByteArray}(k:Nat)(h:k<s.size)(hk:tQ k (s[k]'h).toNat=false):b_ s=false:=by
 unfold b_;rw[decide_eq_false_iff_not];rintro⟨_,_,h3⟩;rw[h3 k h]at hk;cases hk
theorem uM{s:ByteArray}(h1:1≤s.size)(h2:s.size≤32)(h3:∀k:Nat,(h:k<s.size)→tQ k (s[k]'h).toNat=true):b_ s=true:=by
 unfold b_;exact decide_eq_true ⟨h1,h2,h3⟩
theorem gN{a b:Bool}(h:a=b):Ending.returned (.bool a)=.returned (.bool b):=by rw[h]
theorem FC(k c:Nat)(h:128≤c):tQ k c=false:=by
 unfold tQ;simp;omega
theorem uN(s:ByteArray):s.toList.length=s.size:=by
 rw[ByteArray.toList_eq,Array.length_toList];rfl
theorem oB(k c:Nat):tQ k c=true↔(97≤c∧c≤122)∨(0<k∧((65≤c∧c≤90)∨(48≤c∧c≤57)∨c=95∨c=64)):=by
 unfold tQ;simp[or_assoc]
theorem oC(k c:Nat)(h:¬((97≤c∧c≤122)∨(0<k∧((65≤c∧c≤90)∨(48≤c∧c≤57)∨c=95∨c=64)))):tQ k c=false:=by
 rw[Bool.eq_false_iff,ne_eq,oB];exact h
theorem Ef(c:Nat)(h:c<256):∃lo hi:Int,∃b1 b2:Bool,lo≤(c:Int)∧(c:Int)≤hi∧((c:Int)==95)=b1∧((c:Int)==64)=b2∧((c:Int) != 95)=!b1∧((c:Int) != 64)=!b2∧((lo=0∧hi=47∧b1=false∧b2=false)∨(lo=48∧hi=57∧b1=false∧b2=false)∨(lo=58∧hi=63∧b1=false∧b2=false)∨(lo=64∧hi=64∧b1=false∧b2=true)∨(lo=65∧hi=90∧b1=false∧b2=false)∨(lo=91∧hi=94∧b1=false∧b2=false)∨(lo=95∧hi=95∧b1=true∧b2=false)∨(lo=96∧hi=96∧b1=false∧b2=false)∨(lo=97∧hi=122∧b1=false∧b2=false)∨(lo=123∧hi=255∧b1=false∧b2=false)):=by
 have:c≤47∨(48≤c∧c≤57)∨(58≤c∧c≤63)∨c=64∨(65≤c∧c≤90)∨(91≤c∧c≤94)∨c=95∨c=96∨(97≤c∧c≤122)∨123≤c:=by omega
 rcases this with h|h|h|h|h|h|h|h|h|h
 ·exact⟨0,47,false,false,by omega,by omega,by simp <;> omega,by simp <;> omega,by simp <;> omega,by simp <;> omega,by simp⟩
 ·exact⟨48,57,false,false,by omega,by omega,by simp <;> omega,by simp <;> omega,by simp <;> omega,by simp <;> omega,by simp⟩
 ·exact⟨58,63,false,false,by omega,by omega,by simp <;> omega,by simp <;> omega,by simp <;> omega,by simp <;> omega,by simp⟩
 ·exact⟨64,64,false,true,by omega,by omega,by simp <;> omega,by simp <;> omega,by simp <;> omega,by simp <;> omega,by simp⟩
 ·exact⟨65,90,false,false,by omega,by omega,by simp <;> omega,by simp <;> omega,by simp <;> omega,by simp <;> omega,by simp⟩
 ·exact⟨91,94,false,false,by omega,by omega,by simp <;> omega,by simp <;> omega,by simp <;> omega,by simp <;> omega,by simp⟩
 ·exact⟨95,95,true,false,by omega,by omega,by simp <;> omega,by simp <;> omega,by simp <;> omega,by simp <;> omega,by simp⟩
 ·exact⟨96,96,false,false,by omega,by omega,by simp <;> omega,by simp <;> omega,by simp <;> omega,by simp <;> omega,by simp⟩
 ·exact⟨97,122,false,false,by omega,by omega,by simp <;> omega,by simp <;> omega,by simp <;> omega,by simp <;> omega,by simp⟩
 ·exact⟨123,255,false,false,by omega,by omega,by simp <;> omega,by simp <;> omega,by simp <;> omega,by simp <;> omega,by simp⟩
theorem Valid(s:ByteArray)(w:World) :
 Calls Tryz.prog 140 #[.string s] w fun e w'=>e=.returned (.bool (b_ s))∧Below w.heap.size w w':=by
 by_cases h1:s.size=0
 ·have h3:s.toList.isEmpty=true:=by rw[List.isEmpty_iff,←List.length_eq_zero_iff,uN];exact h1
  go_enter Tryz.func140,Tryz.ntmps140;go_wp2_with fail;go_ret;exact⟨gN (by unfold b_;symm;rw[decide_eq_false_iff_not];omega),Below.refl _ _⟩
 have h3:s.toList.isEmpty=false:=by rw[List.isEmpty_eq_false_iff];intro e;exact h1 (by rw[←uN,e];rfl)
 by_cases h2:32<s.size
 ·go_enter Tryz.func140,Tryz.ntmps140;go_wp2_with fail;go_ret;exact⟨gN (by unfold b_;symm;rw[decide_eq_false_iff_not];omega),Below.refl _ _⟩
 go_enter Tryz.func140,Tryz.ntmps140;go_wp2_with fail;go_loopw [3] (fun _ w'=>∃pos:Nat,w'=w.iter s pos∧pos≤s.size∧∀k:Nat,(h:k<s.size)→k<pos→tQ k (s[k]'h).toNat=true) (fun _ w'=>s.size-w'.iterPos w.heap.size)
 case atStart=>exact⟨0,rfl,by omega,by omega⟩
 case round=>
  obtain⟨pos,rfl,hpos,hall⟩:=hrel;have G4:=Qh hall;clear hall
  by_cases hp:pos<s.size
  ·by_cases ha:s[pos].toNat<128
   ·have CO:∀ty,(Instr.next (.pointer (some ⟨w.heap.size,0,none⟩)) true ty).run Tryz.prog (w.iter s pos)=_:=fun ty=>run_next_ascii w s pos ty hp ha;have HP:Hid (pos=0∨0<pos):=Qh (by omega);obtain⟨lo,hi,b1,b2,c1,c2,c3,c4,c5,c6,hG⟩:=Ef s[pos].toNat (by omega)
    rcases HP.out with QZ|QZ
    ·subst QZ;rcases hG with⟨rfl,rfl,rfl,rfl⟩|⟨rfl,rfl,rfl,rfl⟩|⟨rfl,rfl,rfl,rfl⟩|⟨rfl,rfl,rfl,rfl⟩|⟨rfl,rfl,rfl,rfl⟩|⟨rfl,rfl,rfl,rfl⟩|⟨rfl,rfl,rfl,rfl⟩|⟨rfl,rfl,rfl,rfl⟩|⟨rfl,rfl,rfl,rfl⟩|⟨rfl,rfl,rfl,rfl⟩
     all_goals go_wp2
     all_goals first
      | (go_ret
         exact⟨gN (iH 0 hp (oC _ _ (by omega))).symm,(Below.refl _ _).alloc (Nat.le_refl _) _⟩)
      | (go_roundw
         case rel=>exact⟨0+1,rfl,by omega,fun k h hk=>by
          obtain rfl:k=0:=by omega
          exact(oB _ _).2 (by omega)⟩
         case measure=>simp;omega)
      | (exfalso;simp only[Bool.not_eq_eq_eq_not,Bool.not_false,Bool.not_true,decide_eq_true_eq,decide_eq_false_iff_not]at*;omega)
    ·rcases hG with⟨rfl,rfl,rfl,rfl⟩|⟨rfl,rfl,rfl,rfl⟩|⟨rfl,rfl,rfl,rfl⟩|⟨rfl,rfl,rfl,rfl⟩|⟨rfl,rfl,rfl,rfl⟩|⟨rfl,rfl,rfl,rfl⟩|⟨rfl,rfl,rfl,rfl⟩|⟨rfl,rfl,rfl,rfl⟩|⟨rfl,rfl,rfl,rfl⟩|⟨rfl,rfl,rfl,rfl⟩
     all_goals go_wp2
     all_goals first
      | (go_ret
         exact⟨gN (iH pos hp (oC _ _ (by omega))).symm,(Below.refl _ _).alloc (Nat.le_refl _) _⟩)
      | (go_roundw
         case rel=>
          refine⟨pos+1,rfl,by omega,fun k h hk=>?_⟩
          by_cases hkp:k<pos
          ·exact G4.out k h hkp
          ·obtain rfl:k=pos:=by omega
           exact(oB _ _).2 (by omega)
         case measure=>simp;omega)
      | (exfalso;simp only[Bool.not_eq_eq_eq_not,Bool.not_false,Bool.not_true,decide_eq_true_eq,decide_eq_false_iff_not]at*;omega)
   ·have CO:∀ty,(Instr.next (.pointer (some ⟨w.heap.size,0,none⟩)) true ty).run Tryz.prog (w.iter s pos)=_:=fun ty=>run_next_any w s pos ty hp;have hr:=(decode_high s pos hp (by omega)).1;generalize hdr:(Utf8.decode s pos).1=r,hdw:(Utf8.decode s pos).2=wd at*;clear hdr hdw;have q1:((r:Int)==95)=false:=by simp;omega
    have q2:((r:Int)==64)=false:=by simp;omega
    by_cases QZ:0<pos
    all_goals go_wp2
    all_goals first
     | (go_ret
        exact⟨gN (iH pos hp (FC _ _ (by omega))).symm,(Below.refl _ _).alloc (Nat.le_refl _) _⟩)
     | (exfalso;simp only[Bool.not_eq_eq_eq_not,Bool.not_false,Bool.not_true,decide_eq_true_eq,decide_eq_false_iff_not]at*;omega)
  ·have CO:∀ty,(Instr.next (.pointer (some ⟨w.heap.size,0,none⟩)) true ty).run Tryz.prog (w.iter s pos)=_:=fun ty=>run_next_end w s pos ty hp;go_wp2
   go_ret;exact⟨gN (uM (by omega) (by omega) (fun k h=>G4.out k h (by omega))).symm,(Below.refl _ _).alloc (Nat.le_refl _) _⟩
end Go.Proofs.YtfbggmbmgohiiaaGreat.names
