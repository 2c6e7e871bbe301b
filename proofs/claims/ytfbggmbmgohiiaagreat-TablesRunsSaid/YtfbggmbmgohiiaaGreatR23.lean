/- TmQ. No condition beyond theirs. -/
import Derived.Test.YtfbggmbmgohiiaaGreatR22
set_option linter.unusedSimpArgs false
set_option linter.unusedVariables false
set_option maxHeartbeats 1000000
set_option maxRecDepth 100000
namespace Go.Proofs.YtfbggmbmgohiiaaGreat.tm
open Go.RowKit mem names
theorem MT(k i g:Int)(nm fn:ByteArray)(ar:Int)(aL:ByteArray)(bt:Int)(p:Option Addr)(n c:Nat)(w:World) :
 Calls Tryz.prog 119 #[aj ⟨k,i,g,nm,fn,ar,aL,bt⟩ (.slice p n c)] w (aV (kU ⟨k,i,g,nm,fn,ar,aL,bt⟩) w):=by
 unfold aj kU aV;dsimp only
 by_cases h0:gq bt 0 16384=true
 ·rw[h0];have KO:=of_decide_eq_true h0;have hba:(0:Int)≤bt:=KO.1;have KX:bt≤16384:=KO.2;have p1:decide (bt<0)=false:=decide_eq_false (by omega);have p2:decide (16384<bt)=false:=decide_eq_false (by omega);have Yu:IntKind.i64.wrap (bt+7)=bt+7:=IntWalk.i64_in _ (by omega);have hd7:(bt+7).tdiv 8=(bt+7)/8:=Int.tdiv_eq_ediv_of_nonneg (by omega)
  by_cases h1:(aL.size:Int)=(bt+7)/8
  ·rw[decide_eq_true h1];have q1:((aL.size:Int) != (bt+7)/8)=false:=by simp[h1]
   by_cases h2:bt%8=0
   ·have q2:(bt%8==0)=true:=by simp[h2]
    rw[decide_eq_true (Or.inl h2)];clear h1 h2 h0;go_enter Tryz.func119,Tryz.ntmps119;go_wp2_with fail;go_ret;exact⟨rfl,(Below.refl _ _).alloc (Nat.le_refl _) _⟩
   ·obtain⟨m,hm⟩:∃m,aL.size=m+1:=⟨aL.size-1,by omega⟩;have hm2:m<aL.size:=by omega
    have hsz:(aL.size:Int)=(m:Int)+1:=by omega
    have G9:(bt+7)/8=(m:Int)+1:=by omega
    have hmm:(m:Int)<10000:=by omega
    have hwm:IntKind.i64.wrap (m:Int)=m:=IntWalk.i64_in _ (by omega);obtain⟨r,hr⟩:∃r:Nat,bt%8=(r:Int):=⟨(bt%8).toNat,by omega⟩;have mj:1≤r:=by omega
    have KP:r≤7:=by omega
    have Kk:bt.tmod 8=(r:Int):=by rw[Int.tmod_eq_emod_of_nonneg KO.1];exact hr
    have p7:fI aL=(aL[m]'hm2).toNat:=xp aL m hm;have U7:∀w:World,(Instr.index 9 (.string aL) (.int .i64 (m:Int))).run Tryz.prog w=.ok (.int .u8 ((aL[m]'hm2).toNat:Int)) w:=fun w=>by
     rw[run_index_string w 9 aL .i64 (m:Int) Tryz.underlying9,dif_pos ⟨by omega,by omega⟩];rfl
    have qp:(aL[m]'hm2).toNat<256:=UInt8.toNat_lt _;have hiff:(decide (bt%8=0∨fI aL%2^(8-(bt%8).toNat)=0))=decide ((aL[m]'hm2).toNat%2^(8-r)=0):=by
     rw[p7,hr,Int.toNat_natCast];apply decide_eq_decide.2
     constructor
     ·rintro(h|h)
      ·omega
      ·exact h
     ·exact .inr
    rw[hiff];have q2:((r:Int)==0)=false:=by simp;omega
    have q1':((m:Int)+1 != (m:Int)+1)=false:=by simp
    clear p7 hm h0 h1 h2 hiff q1;generalize(aL[m]'hm2).toNat=b at*;have HR:=Qh hr;clear hr;have aaf:(b:Int)<256:=by omega
    go_enter Tryz.func119,Tryz.ntmps119;go_wp2_with fail;go_loop [4,5] (fun a b=>∃j u:Nat,a=.int .i64 u∧b=.int .i64 j∧r≤j∧j≤8∧Hid (u=2^(j-r))∧1≤u∧u≤128) (fun a b=>8-(intOf b).toNat)
    case atStart=>exact⟨r,1,rfl,rfl,by omega,by omega,Qh (by simp),by omega,by omega⟩
    case round=>
     obtain⟨j,u,rfl,rfl,V_,hj8,hu,C6,AK⟩:=hrel
     by_cases hlt:j<8
     ·have td:IntKind.i64.wrap ((u:Int)*2)=(u:Int)*2:=IntWalk.i64_in _ (by omega);have Wa:u*2=2^(j+1-r):=by
       rw[hu.out,show j+1-r=(j-r)+1 by omega,Nat.pow_succ]
      have hu4:u*2≤128:=by
       rw[Wa]
       calc 2^(j+1-r)≤2^7:=Nat.pow_le_pow_right (by omega) (by omega)
        _=128:=rfl
      have HU3:=Qh Wa;clear Wa;go_wp2_with fail;go_round
      case rel=>exact⟨j+1,u*2,by simp,by go_num,by omega,by omega,HU3,by omega,by omega⟩
      case measure=>simp[intOf];omega
     ·obtain rfl:j=8:=by omega
      have Sc:((u:Int)==0)=false:=by simp;omega
      have aag:(u:Int)≠0:=by omega
      have aah:(b:Int).tmod (u:Int)=((b%u:Nat):Int):=by rw[Int.tmod_eq_emod_of_nonneg (by omega)];rfl
      have bP:decide (b%2^(8-r)=0)=(((b%u:Nat):Int)==0):=by
       rw[hu.out]
       by_cases e:b%2^(8-r)=0
       ·rw[decide_eq_true e,e];rfl
       ·rw[decide_eq_false e];symm;rw[beq_eq_false_iff_ne];omega
      have HF:=Qh bP;clear bP;go_wp2_with fail;go_ret;exact⟨by simp[HF.out],(Below.refl _ _).alloc (Nat.le_refl _) _⟩
  ·rw[decide_eq_false h1];have q1:((aL.size:Int) != (bt+7)/8)=true:=by simp[h1]
   clear h1 h0;go_enter Tryz.func119,Tryz.ntmps119;go_wp2_with fail;go_ret;exact⟨rfl,(Below.refl _ _).alloc (Nat.le_refl _) _⟩
 ·have h0:gq bt 0 16384=false:=by simpa using h0
  have KO:=of_decide_eq_false h0;rw[h0]
  by_cases h1:bt<0
  ·have p1:decide (bt<0)=true:=decide_eq_true h1;go_enter Tryz.func119,Tryz.ntmps119;go_wp2_with fail;go_ret;exact⟨rfl,(Below.refl _ _).alloc (Nat.le_refl _) _⟩
  ·have p1:decide (bt<0)=false:=decide_eq_false h1;have p2:decide (16384<bt)=true:=decide_eq_true (by omega);clear KO h0;go_enter Tryz.func119,Tryz.ntmps119;go_wp2_with fail;go_ret;exact⟨rfl,(Below.refl _ _).alloc (Nat.le_refl _) _⟩
end Go.Proofs.YtfbggmbmgohiiaaGreat.tm
