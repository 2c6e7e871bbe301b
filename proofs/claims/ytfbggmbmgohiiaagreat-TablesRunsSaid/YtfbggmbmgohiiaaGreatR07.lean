/- TmH. No condition beyond theirs. -/
import Derived.Test.YtfbggmbmgohiiaaGreatR04
set_option linter.unusedSimpArgs false
set_option linter.unusedVariables false
set_option maxHeartbeats 1000000
set_option maxRecDepth 100000
namespace Go.Proofs.YtfbggmbmgohiiaaGreat.tm
open Go.RowKit mem names
def FE(b r:Nat):Nat:=b*2^r%256
theorem KM(b r:Nat):((b:Int)*2^r%256)=(FE b r:Int):=by
 unfold FE;rw[Int.natCast_emod,Int.natCast_mul,Int.natCast_pow];rfl
theorem KN(b r:Nat)(hb:b<256)(h1:1≤r)(h7:r≤7):FE b r=0↔b%2^(8-r)=0:=by
 unfold FE;have ways:r=1∨r=2∨r=3∨r=4∨r=5∨r=6∨r=7:=by omega
 rcases ways with rfl|rfl|rfl|rfl|rfl|rfl|rfl <;> (simp only[Nat.reducePow,Nat.reduceSub];omega)
theorem xp(s:ByteArray)(m:Nat)(h:s.size=m+1):fI s=(s[m]'(by omega)).toNat:=by
 unfold fI;have hl:s.data.toList.length=m+1:=by rw[Array.length_toList];exact h
 rw[List.getLastD_eq_getLast?,List.getLast?_eq_getElem?,hl,Nat.add_sub_cancel,List.getElem?_eq_getElem (by omega)];rfl
theorem G8(i g:Int)(nm fn:ByteArray)(ar:Int)(aL:ByteArray)(bt:Int)(p:Option Addr)(n c:Nat)(last:Int)(w:World) :
 Calls Tryz.prog 149 #[aj ⟨10,i,g,nm,fn,ar,aL,bt⟩ (.slice p n c)] w (fU ⟨10,i,g,nm,fn,ar,aL,bt⟩ (.slice p n c) n last w):=by
 have hb:bG ⟨10,i,g,nm,fn,ar,aL,bt⟩=⟨10,i,g,nm,fn,ar,⟨#[]⟩,0⟩:=by simp[bG]
 have hv:bQ ⟨10,i,g,nm,fn,ar,aL,bt⟩ (.slice p n c)=.slice p n c:=by simp[bQ,aK]
 have ho:okF ⟨10,i,g,nm,fn,ar,aL,bt⟩ n last=kU ⟨10,i,g,nm,fn,ar,aL,bt⟩:=by simp[okF]
 unfold fU;rw[hb,hv,ho];unfold aj kU;dsimp only;clear hb hv ho
 by_cases h0:gq bt 0 16384=true
 ·have hw:=fun W=>within bt 0 16384 W;rw[h0]at hw;rw[h0];have KO:=of_decide_eq_true h0
  by_cases h1:(aL.size:Int)=(bt+7)/8
  ·rw[decide_eq_true h1];have q1:((aL.size:Int)==(bt+7)/8)=true:=by simp[h1]
   by_cases h2:bt%8=0
   ·have q2:(bt%8 != 0)=false:=by simp[h2]
    rw[decide_eq_true (Or.inl h2)];clear h1 h2 h0;go_enter Tryz.func149,Tryz.ntmps149;go_wp2_with fail;refine(hw _).mono ?_;rintro e w' ⟨rfl,rfl⟩;go_wp2_with fail;exact bodyPost_ret (v:=(.tuple #[.agg (a9 10 i g nm fn ar (.slice p n c) ⟨#[]⟩ 0),.bool true])) (by simp[results,Tryz.results149,go_sem, *]) rfl ⟨by simp,Qz⟩
   ·have q2:(bt%8 != 0)=true:=by simp[h2]
    obtain⟨m,hm⟩:∃m,aL.size=m+1:=⟨aL.size-1,by omega⟩;have hm2:m<aL.size:=by omega
    have HM:=Qh hm;have hsz:(aL.size:Int)=(m:Int)+1:=by omega
    have G9:(bt+7)/8=(m:Int)+1:=by omega
    have hmm:(m:Int)<10000:=by omega
    have hwm:IntKind.i64.wrap (m:Int)=m:=IntWalk.i64_in _ (by omega);obtain⟨r,hr⟩:∃r:Nat,bt%8=(r:Int):=⟨(bt%8).toNat,by omega⟩;have mj:1≤r:=by omega
    have KP:r≤7:=by omega
    have Kk:bt.tmod 8=(r:Int):=by rw[Int.tmod_eq_emod_of_nonneg KO.1];exact hr
    have p7:fI aL=(aL[m]'hm2).toNat:=xp aL m hm;have qp:(aL[m]'hm2).toNat<256:=UInt8.toNat_lt _;have U7:∀w:World,(Instr.index 9 (.string aL) (.int .i64 (m:Int))).run Tryz.prog w=.ok (.int .u8 ((aL[m]'hm2).toNat:Int)) w:=fun w=>by
     rw[run_index_string w 9 aL .i64 (m:Int) Tryz.underlying9,dif_pos ⟨by omega,by omega⟩];rfl
    have hz:=KM (aL[m]'hm2).toNat r;have hiff:FE (aL[m]'hm2).toNat r=0↔fI aL%2^(8-(bt%8).toNat)=0:=by
     rw[p7,hr,Int.toNat_natCast];exact KN _ r qp mj KP
    clear p7 hm h0;generalize(aL[m]'hm2).toNat=b at*;have HZ:=Qh hz;clear hz;generalize FE b r=s at*;have Ej:((r:Int) != 0)=true:=by simp;omega
    by_cases h3:s=0
    ·have H3:=Qh h3;have bP:(decide (bt%8=0∨fI aL%2^(8-(bt%8).toNat)=0))=true:=decide_eq_true (.inr (hiff.1 h3));rw[bP];clear bP hiff h3 h1 h2 q1 q2;go_enter Tryz.func149,Tryz.ntmps149;go_wp2_with fail;refine(hw _).mono ?_;rintro e w' ⟨rfl,rfl⟩;go_wp2_with fail;go_quiet (fail)
     go_wp2_with fail;exact bodyPost_ret (v:=(.tuple #[.agg (a9 10 i g nm fn ar (.slice p n c) ⟨#[]⟩ 0),.bool true])) (by simp[results,Tryz.results149,go_sem, *];rw[HZ.out,H3.out];rfl) rfl ⟨by simp,Qz⟩
    ·have H3:=Qh h3;have bP:(decide (bt%8=0∨fI aL%2^(8-(bt%8).toNat)=0))=false:=decide_eq_false (by intro h;rcases h with h|h;exact h2 h;exact h3 (hiff.2 h));rw[bP];clear bP hiff h3 h1 h2 q1 q2;go_enter Tryz.func149,Tryz.ntmps149;go_wp2_with fail;refine(hw _).mono ?_;rintro e w' ⟨rfl,rfl⟩;go_wp2_with fail;go_quiet (fail)
     go_wp2_with fail;exact bodyPost_ret (v:=(.tuple #[.agg (a9 10 i g nm fn ar (.slice p n c) ⟨#[]⟩ 0),.bool false])) (by simp[results,Tryz.results149,go_sem, *];rw[HZ.out];have:=H3.out;omega) rfl ⟨by simp,Qz⟩
  ·rw[decide_eq_false h1];have q1:((aL.size:Int)==(bt+7)/8)=false:=by simp[h1]
   clear h1 h0;go_enter Tryz.func149,Tryz.ntmps149;go_wp2_with fail;refine(hw _).mono ?_;rintro e w' ⟨rfl,rfl⟩;go_wp2_with fail;exact bodyPost_ret (v:=(.tuple #[.agg (a9 10 i g nm fn ar (.slice p n c) ⟨#[]⟩ 0),.bool false])) (by simp[results,Tryz.results149,go_sem, *]) rfl ⟨by simp,Qz⟩
 ·have h0:gq bt 0 16384=false:=by simpa using h0
  have hw:=fun W=>within bt 0 16384 W;rw[h0]at hw;rw[h0];go_enter Tryz.func149,Tryz.ntmps149;go_wp2_with fail;refine(hw _).mono ?_;rintro e w' ⟨rfl,rfl⟩;go_wp2_with fail;exact bodyPost_ret (v:=(.tuple #[.agg (a9 10 i g nm fn ar (.slice p n c) ⟨#[]⟩ 0),.bool false])) (by simp[results,Tryz.results149,go_sem, *]) rfl ⟨by simp,Qz⟩
end Go.Proofs.YtfbggmbmgohiiaaGreat.tm
