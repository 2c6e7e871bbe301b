/- TmO. No condition beyond theirs. -/
import Derived.Test.YtfbggmbmgohiiaaGreatR04
set_option linter.unusedSimpArgs false
set_option linter.unusedVariables false
set_option maxHeartbeats 4000000
set_option maxRecDepth 100000
namespace Go.Proofs.YtfbggmbmgohiiaaGreat.tm
open Go.RowKit mem names
theorem jS(s:ByteArray)(w:World) :
 Calls Tryz.prog 117 #[.string s] w fun e w'=>e=.returned (.bool (b_ s))∧Below w.heap.size w w':=by
 by_cases h1:s.size<1
 ·go_enter Tryz.func117,Tryz.ntmps117;go_wp2_with fail;go_ret;exact⟨tm.gN (by unfold b_;symm;rw[decide_eq_false_iff_not];omega),Below.refl _ _⟩
 by_cases h2:32<s.size
 ·go_enter Tryz.func117,Tryz.ntmps117;go_wp2_with fail;go_ret;exact⟨tm.gN (by unfold b_;symm;rw[decide_eq_false_iff_not];omega),Below.refl _ _⟩
 have h0:0<s.size:=by omega
 have F:(Hid (97≤(s[0].toNat:Int)∧(s[0].toNat:Int)≤122→tQ 0 s[0].toNat=true)):=Qh fun h=>(oB _ _).2 (by omega)
 by_cases h3:(s[0].toNat:Int)<97
 ·go_enter Tryz.func117,Tryz.ntmps117;go_wp2_with fail;go_ret;exact⟨tm.gN (iH 0 h0 (oC _ _ (by omega))).symm,Below.refl _ _⟩
 by_cases h4:(122:Int)<s[0].toNat
 ·go_enter Tryz.func117,Tryz.ntmps117;go_wp2_with fail;go_ret;exact⟨tm.gN (iH 0 h0 (oC _ _ (by omega))).symm,Below.refl _ _⟩
 have hin:∀k:Nat,(h:k<s.size)→k<1→tQ k (s[k]'h).toNat=true:=by
  intro k h hk;have e:k=0:=by omega
  subst e;exact F.out (by omega)
 have HIN:=Qh hin;clear hin;go_enter Tryz.func117,Tryz.ntmps117;go_wp2_with fail;go_loop [3] (fun i=>∃pos:Nat,i=.int .i64 pos∧1≤pos∧pos≤s.size∧Hid (∀k:Nat,(h:k<s.size)→k<pos→tQ k (s[k]'h).toNat=true)) (fun i=>s.size-(intOf i).toNat)
 case atStart=>exact⟨1,rfl,by omega,by omega,HIN⟩
 case round=>
  obtain⟨pos,rfl,YB,hpos,G4⟩:=hrel
  by_cases hp:pos<s.size
  ·have HN:Hid (pos=0→97≤(s[pos].toNat:Int)∧(s[pos].toNat:Int)≤122):=Qh (by intro e;omega);obtain⟨lo,hi,b1,b2,c1,c2,c3,c4,c5,c6,hG⟩:=Ef s[pos].toNat (by have:=s[pos].toNat_lt;omega);rcases hG with⟨rfl,rfl,rfl,rfl⟩|⟨rfl,rfl,rfl,rfl⟩|⟨rfl,rfl,rfl,rfl⟩|⟨rfl,rfl,rfl,rfl⟩|⟨rfl,rfl,rfl,rfl⟩|⟨rfl,rfl,rfl,rfl⟩|⟨rfl,rfl,rfl,rfl⟩|⟨rfl,rfl,rfl,rfl⟩|⟨rfl,rfl,rfl,rfl⟩|⟨rfl,rfl,rfl,rfl⟩
   all_goals go_wp2
   all_goals first
    | (go_ret
       exact⟨tm.gN (iH pos hp (oC _ _ (by omega))).symm,Below.refl _ _⟩)
    | (go_round
       case rel=>
        refine⟨pos+1,by go_num,by omega,by omega,Qh fun k h hk=>?_⟩
        by_cases hkp:k<pos
        ·exact G4.out k h hkp
        ·obtain rfl:k=pos:=by omega
         have hn:=HN.out
         exact(oB _ _).2 (by omega)
       case measure=>simp[intOf];omega)
    | (exfalso;simp only[Bool.not_eq_eq_eq_not,Bool.not_false,Bool.not_true,decide_eq_true_eq,decide_eq_false_iff_not]at*;omega)
  ·go_wp2
   go_ret;exact⟨tm.gN (uM (by omega) (by omega) (fun k h=>G4.out k h (by omega))).symm,Below.refl _ _⟩
theorem between(n a b:Int)(w:World):Calls Tryz.prog 118 #[.int .i64 n,.int .i64 a,.int .i64 b] w fun e w'=>e=.returned (.bool (gq n a b))∧w=w':=by
 by_cases h1:a≤n
 ·by_cases h2:n≤b
  ·rw[mq ⟨h1,h2⟩];have q1:decide (a≤n)=true:=decide_eq_true h1;have q2:decide (n≤b)=true:=decide_eq_true h2;go_enter Tryz.func118,Tryz.ntmps118;go_wp2_with fail;go_ret;exact⟨rfl,rfl⟩
  ·rw[Ak (fun h=>h2 h.2)];have q1:decide (a≤n)=true:=decide_eq_true h1;have q2:decide (n≤b)=false:=decide_eq_false h2;go_enter Tryz.func118,Tryz.ntmps118;go_wp2_with fail;go_ret;exact⟨rfl,rfl⟩
 ·rw[Ak (fun h=>h1 h.1)];have q1:decide (a≤n)=false:=decide_eq_false h1;go_enter Tryz.func118,Tryz.ntmps118;go_wp2_with fail;go_ret;exact⟨rfl,rfl⟩
end Go.Proofs.YtfbggmbmgohiiaaGreat.tm
