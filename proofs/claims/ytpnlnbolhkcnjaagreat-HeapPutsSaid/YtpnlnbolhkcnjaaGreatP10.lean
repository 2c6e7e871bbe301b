/- TmH,TmI. No condition beyond theirs. -/
import Derived.Test.YtpnlnbolhkcnjaaGreatP09
set_option linter.unusedSimpArgs false
set_option linter.unusedVariables false
set_option maxHeartbeats 1000000
set_option maxRecDepth 100000
namespace Go.Proofs.YtpnlnbolhkcnjaaGreat.tm
open Go.RowKit mem names
def shlN (b r:Nat):Nat:=b * 2 ^ r % 256
theorem shl_int (b r:Nat):((b:Int) * 2 ^ r % 256) = (shlN b r:Int):=by
 unfold shlN;rw [Int.natCast_emod,Int.natCast_mul,Int.natCast_pow];rfl
theorem shl_iff (b r:Nat) (hb:b < 256) (h1:1 ≤ r) (h7:r ≤ 7):shlN b r = 0↔b % 2 ^ (8 - r) = 0:=by
 unfold shlN;have ways:r = 1∨r = 2∨r = 3∨r = 4∨r = 5∨r = 6∨r = 7:=by omega
 rcases ways with rfl | rfl | rfl | rfl | rfl | rfl | rfl <;> (simp only [Nat.reducePow,Nat.reduceSub];omega)
theorem last_byte (s:ByteArray) (m:Nat) (h:s.size = m + 1):lastByte s = (s[m]'(by omega)).toNat:=by
 unfold lastByte;have hl:s.data.toList.length = m + 1:=by rw [Array.length_toList];exact h
 rw [List.getLastD_eq_getLast?,List.getLast?_eq_getElem?,hl,Nat.add_sub_cancel,List.getElem?_eq_getElem (by omega)];rfl
theorem kindBits (i g:Int) (nm fn:ByteArray) (ar:Int) (by_:ByteArray) (bt:Int) (p:Option Addr) (n c:Nat) (last:Int) (w:World) :
 Calls Tryz.prog 264 #[aggV ⟨10,i,g,nm,fn,ar,by_,bt⟩ (.slice p n c)] w (KPost ⟨10,i,g,nm,fn,ar,by_,bt⟩ (.slice p n c) n last w):=by
 have hb:bareF ⟨10,i,g,nm,fn,ar,by_,bt⟩ = ⟨10,i,g,nm,fn,ar,⟨#[]⟩,0⟩:=by simp [bareF]
 have hv:bareV ⟨10,i,g,nm,fn,ar,by_,bt⟩ (.slice p n c) = .slice p n c:=by simp [bareV,nilV]
 have ho:okF ⟨10,i,g,nm,fn,ar,by_,bt⟩ n last = okBits ⟨10,i,g,nm,fn,ar,by_,bt⟩:=by simp [okF]
 unfold KPost;rw [hb,hv,ho];unfold aggV okBits;dsimp only;clear hb hv ho
 by_cases h0:inB bt 0 16384 = true
 ·have hw:=fun W=>within bt 0 16384 W;rw [h0] at hw;rw [h0];have hbt:=of_decide_eq_true h0
  by_cases h1:(by_.size:Int) = (bt + 7) / 8
  ·rw [decide_eq_true h1];have q1:((by_.size:Int) == (bt + 7) / 8) = true:=by simp [h1]
   by_cases h2:bt % 8 = 0
   ·have q2:(bt % 8 != 0) = false:=by simp [h2]
    rw [decide_eq_true (Or.inl h2)];clear h1 h2 h0;go_enter Tryz.func264,Tryz.ntmps264;go_wp2_with fail;refine (hw _).mono ?_;rintro e w' ⟨rfl,rfl⟩;go_wp2_with fail
    exact bodyPost_ret (v:=(.tuple #[.agg #[.int .i64 10,.int .i64 i,.int .i64 g,.string nm,.string fn,.int .i64 ar,.slice p n c,.string ⟨#[]⟩,.int .i64 0],.bool true])) (by simp [results,Tryz.results264,go_sem, *]) rfl ⟨by simp,by (repeat' (first | with_reducible exact Below.refl _ _ | with_reducible exact Nat.le_refl _ | with_reducible refine Below.setCell ?_ ?_ _ | with_reducible refine Below.alloc ?_ ?_ _ | (simp;done) | (simp;omega)))⟩
   ·have q2:(bt % 8 != 0) = true:=by simp [h2]
    obtain ⟨m,hm⟩:∃ m,by_.size = m + 1:=⟨by_.size - 1,by omega⟩;have hm2:m < by_.size:=by omega
    have HM:=Lib.hid hm;have hsz:(by_.size:Int) = (m:Int) + 1:=by omega
    have hsz2:(bt + 7) / 8 = (m:Int) + 1:=by omega
    have hmm:(m:Int) < 10000:=by omega
    have hwm:IntKind.i64.wrap (m:Int) = m:=IntWalk.i64_in _ (by omega);obtain ⟨r,hr⟩:∃ r:Nat,bt % 8 = (r:Int):=⟨(bt % 8).toNat,by omega⟩;have hr1:1 ≤ r:=by omega
    have hr7:r ≤ 7:=by omega
    have htm:bt.tmod 8 = (r:Int):=by rw [Int.tmod_eq_emod_of_nonneg hbt.1];exact hr
    have hlast:lastByte by_ = (by_[m]'hm2).toNat:=last_byte by_ m hm;have hb8:(by_[m]'hm2).toNat < 256:=UInt8.toNat_lt _;have hix:∀ w:World,(Instr.index 9 (.string by_) (.int .i64 (m:Int))).run Tryz.prog w = .ok (.int .u8 ((by_[m]'hm2).toNat:Int)) w:=fun w=>by
     rw [run_index_string w 9 by_ .i64 (m:Int) Tryz.underlying9,dif_pos ⟨by omega,by omega⟩];rfl
    have hz:=shl_int (by_[m]'hm2).toNat r;have hiff:shlN (by_[m]'hm2).toNat r = 0↔lastByte by_ % 2 ^ (8 - (bt % 8).toNat) = 0:=by
     rw [hlast,hr,Int.toNat_natCast];exact shl_iff _ r hb8 hr1 hr7
    clear hlast hm h0;generalize (by_[m]'hm2).toNat = b at *;have HZ:=Lib.hid hz;clear hz;generalize shlN b r = s at *;have hr0:((r:Int) != 0) = true:=by simp;omega
    by_cases h3:s = 0
    ·have H3:=Lib.hid h3;have hfin:(decide (bt % 8 = 0∨lastByte by_ % 2 ^ (8 - (bt % 8).toNat) = 0)) = true:=decide_eq_true (.inr (hiff.1 h3));rw [hfin];clear hfin hiff h3 h1 h2 q1 q2;go_enter Tryz.func264,Tryz.ntmps264;go_wp2_with fail;refine (hw _).mono ?_;rintro e w' ⟨rfl,rfl⟩;go_wp2_with fail;go_quiet (fail)
     go_wp2_with fail;exact bodyPost_ret (v:=(.tuple #[.agg #[.int .i64 10,.int .i64 i,.int .i64 g,.string nm,.string fn,.int .i64 ar,.slice p n c,.string ⟨#[]⟩,.int .i64 0],.bool true])) (by simp [results,Tryz.results264,go_sem, *];rw [HZ.out,H3.out];rfl) rfl ⟨by simp,by (repeat' (first | with_reducible exact Below.refl _ _ | with_reducible exact Nat.le_refl _ | with_reducible refine Below.setCell ?_ ?_ _ | with_reducible refine Below.alloc ?_ ?_ _ | with_reducible refine RowKit.Below.drewN ?_ _ | (simp;done) | (simp;omega)))⟩
    ·have H3:=Lib.hid h3;have hfin:(decide (bt % 8 = 0∨lastByte by_ % 2 ^ (8 - (bt % 8).toNat) = 0)) = false:=decide_eq_false (by intro h;rcases h with h | h;exact h2 h;exact h3 (hiff.2 h));rw [hfin];clear hfin hiff h3 h1 h2 q1 q2;go_enter Tryz.func264,Tryz.ntmps264;go_wp2_with fail;refine (hw _).mono ?_;rintro e w' ⟨rfl,rfl⟩;go_wp2_with fail;go_quiet (fail)
     go_wp2_with fail;exact bodyPost_ret (v:=(.tuple #[.agg #[.int .i64 10,.int .i64 i,.int .i64 g,.string nm,.string fn,.int .i64 ar,.slice p n c,.string ⟨#[]⟩,.int .i64 0],.bool false])) (by simp [results,Tryz.results264,go_sem, *];rw [HZ.out];have:=H3.out;omega) rfl ⟨by simp,by (repeat' (first | with_reducible exact Below.refl _ _ | with_reducible exact Nat.le_refl _ | with_reducible refine Below.setCell ?_ ?_ _ | with_reducible refine Below.alloc ?_ ?_ _ | with_reducible refine RowKit.Below.drewN ?_ _ | (simp;done) | (simp;omega)))⟩
  ·rw [decide_eq_false h1];have q1:((by_.size:Int) == (bt + 7) / 8) = false:=by simp [h1]
   clear h1 h0;go_enter Tryz.func264,Tryz.ntmps264;go_wp2_with fail;refine (hw _).mono ?_;rintro e w' ⟨rfl,rfl⟩;go_wp2_with fail;exact bodyPost_ret (v:=(.tuple #[.agg #[.int .i64 10,.int .i64 i,.int .i64 g,.string nm,.string fn,.int .i64 ar,.slice p n c,.string ⟨#[]⟩,.int .i64 0],.bool false])) (by simp [results,Tryz.results264,go_sem, *]) rfl ⟨by simp,by (repeat' (first | with_reducible exact Below.refl _ _ | with_reducible exact Nat.le_refl _ | with_reducible refine Below.setCell ?_ ?_ _ | with_reducible refine Below.alloc ?_ ?_ _ | (simp;done) | (simp;omega)))⟩
 ·have h0:inB bt 0 16384 = false:=by simpa using h0
  have hw:=fun W=>within bt 0 16384 W;rw [h0] at hw;rw [h0];go_enter Tryz.func264,Tryz.ntmps264;go_wp2_with fail;refine (hw _).mono ?_;rintro e w' ⟨rfl,rfl⟩;go_wp2_with fail
  exact bodyPost_ret (v:=(.tuple #[.agg #[.int .i64 10,.int .i64 i,.int .i64 g,.string nm,.string fn,.int .i64 ar,.slice p n c,.string ⟨#[]⟩,.int .i64 0],.bool false])) (by simp [results,Tryz.results264,go_sem, *]) rfl ⟨by simp,by (repeat' (first | with_reducible exact Below.refl _ _ | with_reducible exact Nat.le_refl _ | with_reducible refine Below.setCell ?_ ?_ _ | with_reducible refine Below.alloc ?_ ?_ _ | (simp;done) | (simp;omega)))⟩
def lastK:(n:Nat)→List (Tm n)→Int
 | 0,_=>0
 | n + 1,l=>(l.getLast?.map (fun t=>t.f.kind)).getD 0
noncomputable def bareOK (f:TF) (k:Nat):Bool:=eqB { bareF f with kind:=0 } zeroF && decide ((if f.kind = 4∨f.kind = 7∨f.kind = 9 then 0 else k) = 0)
noncomputable def okT {n:Nat} (t:Tm (n + 1)):Bool:=inB t.f.kind 0 10 && (okF t.f t.items.length (lastK n t.items) && bareOK t.f t.items.length)
noncomputable def formedL:(n:Nat)→List (Tm n)→Bool
 | 0,_=>true
 | n + 1,l=>l.all (fun t=>okT t && formedL n t.items)
noncomputable def formedT {n:Nat} (t:Tm (n + 1)):Bool:=okT t && formedL n t.items
def sizeF (f:TF) (k:Nat):Int:=if f.kind = 9 then (k:Int) - 1 else if f.kind = 10 then 1 + (f.bits + 63) / 64 else 1
def wholeL:(n:Nat)→List (Tm n)→Int
 | 0,_=>0
 | n + 1,l=>(l.map (fun t=>sizeF t.f t.items.length + wholeL n t.items)).sum
def wholeT {n:Nat} (t:Tm (n + 1)):Int:=sizeF t.f t.items.length + wholeL n t.items
def nodesL:(n:Nat)→List (Tm n)→Nat
 | 0,_=>0
 | n + 1,l=>(l.map (fun t=>1 + nodesL n t.items)).sum
def nodesT {n:Nat} (t:Tm (n + 1)):Nat:=1 + nodesL n t.items
theorem nodes_len:∀ (n:Nat) (l:List (Tm n)),l.length ≤ nodesL n l:=by
 intro n;cases n with
 | zero=>intro l;rw [Tm.nil0 l];simp
 | succ n =>
  intro l
  induction l with
  | nil=>simp [nodesL]
  | cons t l ih =>
   have e:nodesL (n + 1) (t :: l) = (1 + nodesL n t.items) + nodesL (n + 1) l:=by simp [nodesL]
   rw [e];simp;omega
theorem nodes_mem {n:Nat} {l:List (Tm (n + 1))} {k:Nat} (h:k < l.length):nodesL (n + 1) (l.take k) + nodesT l[k] + nodesL (n + 1) (l.drop (k + 1)) = nodesL (n + 1) l:=by
 have e:nodesL (n + 1) l = nodesL (n + 1) (l.take k ++ l[k] :: l.drop (k + 1)):=by rw [← List.drop_eq_getElem_cons h,List.take_append_drop]
 rw [e];unfold nodesL nodesT;simp only [List.map_append,List.map_cons,List.sum_append,List.sum_cons];omega
theorem whole_snoc {n:Nat} (l:List (Tm (n + 1))) (k:Nat) (h:k < l.length):wholeL (n + 1) (l.take (k + 1)) = wholeL (n + 1) (l.take k) + wholeT l[k]:=by
 rw [List.take_succ_eq_append_getElem h];unfold wholeL wholeT;simp only [List.map_append,List.map_cons,List.map_nil,List.sum_append,List.sum_cons,List.sum_nil];omega
theorem formed_no {n:Nat} {l:List (Tm (n + 1))} {k:Nat} (h:k < l.length) (hf:formedT l[k] = false):formedL (n + 1) l = false:=by
 unfold formedL;rw [List.all_eq_false];exact ⟨l[k],List.getElem_mem h,by unfold formedT at hf;simp [hf]⟩
theorem formed_yes {n:Nat} {l:List (Tm (n + 1))} (h:∀ k,(hk:k < l.length)→formedT l[k] = true):formedL (n + 1) l = true:=by
 unfold formedL;rw [List.all_eq_true];intro x hx;obtain ⟨k,hk,rfl⟩:=List.mem_iff_getElem.1 hx;exact h k hk
theorem alike0 (p:Option Addr) (n c:Nat) (fv:Value) (w:World):Calls Tryz.prog 277 #[.slice p n c,.slice none 0 0,fv] w fun e w'=>e = .returned (.bool (decide (n = 0)))∧w = w':=by
 by_cases h:n = 0
 ·subst h;rw [decide_eq_true rfl];go_enter Tryz.func277,Tryz.ntmps277;go_wp2_with fail;refine wp_loop_rounds 1 ?_;rw [rounds_succ];go_wp2_with fail;go_ret;exact ⟨rfl,rfl⟩
 ·rw [decide_eq_false h];have hq:((n:Int) != 0) = true:=by simp;omega
  go_enter Tryz.func277,Tryz.ntmps277;go_wp2_with fail;go_ret;exact ⟨rfl,rfl⟩
theorem eq_zeroF (k i g:Int) (nm fn:ByteArray) (ar:Int) (by_:ByteArray) (bt:Int):(⟨k,i,g,nm,fn,ar,by_,bt⟩:TF) = zeroF↔(k = 0∧i = 0∧g = 0∧nm = ⟨#[]⟩∧fn = ⟨#[]⟩∧ar = 0∧by_ = ⟨#[]⟩∧bt = 0):=by
 unfold zeroF;rw [TF.mk.injEq]
theorem str_nz' {a:ByteArray} (h:a ≠ ⟨#[]⟩):¬ a.toList = []:=by
 intro e;rw [ByteArray.toList_eq] at e;exact h (ByteArray.ext (Array.ext' e))
theorem str_nz {a:ByteArray} (h:a ≠ ⟨#[]⟩):a.toList.isEmpty = false:=by
 rw [List.isEmpty_eq_false_iff];exact str_nz' h
theorem str_nz2 {a:ByteArray} (h:a ≠ ⟨#[]⟩):(a.toList == []) = false:=by
 cases hh:a.toList == [] with
 | false=>rfl
 | true=>exact absurd (eq_of_beq hh) (str_nz' h)
theorem sameZ (f:TF) (p:Option Addr) (n c:Nat) (w:World):Calls Tryz.prog 265 #[aggV f (.slice p n c),aggV zeroF (.slice none 0 0)] w fun e w'=>e = .returned (.bool (eqB f zeroF && decide (n = 0)))∧Below w.heap.size w w':=by
 obtain ⟨k,i,g,nm,fn,ar,by_,bt⟩:=f;have hno:¬ (k = 0∧i = 0∧g = 0∧nm = ⟨#[]⟩∧fn = ⟨#[]⟩∧ar = 0∧by_ = ⟨#[]⟩∧bt = 0)→eqB (⟨k,i,g,nm,fn,ar,by_,bt⟩:TF) zeroF = false:=fun h=>eqB_f (fun e=>h ((eq_zeroF _ _ _ _ _ _ _ _).1 e));have hyes:(k = 0∧i = 0∧g = 0∧nm = ⟨#[]⟩∧fn = ⟨#[]⟩∧ar = 0∧by_ = ⟨#[]⟩∧bt = 0)→eqB (⟨k,i,g,nm,fn,ar,by_,bt⟩:TF) zeroF = true:=fun h=>eqB_t ((eq_zeroF _ _ _ _ _ _ _ _).2 h);unfold aggV zeroF at *;dsimp only at *;generalize eqB (⟨k,i,g,nm,fn,ar,by_,bt⟩:TF) (⟨0,0,0,⟨#[]⟩,⟨#[]⟩,0,⟨#[]⟩,0⟩:TF) = r at *
 by_cases e:k ≠ 0
 ·have hq:(k == 0) = false:=by simp [e]
  rw [hno (by simp_all),Bool.false_and];clear hno hyes e;go_enter Tryz.func265,Tryz.ntmps265;go_wp2_with fail;go_ret;exact ⟨rfl,((Below.refl _ _).alloc (Nat.le_refl _) _).alloc (by simp) _⟩
 have e:=Classical.not_not.1 e;subst e
 by_cases e:i ≠ 0
 ·have hq:(i == 0) = false:=by simp [e]
  rw [hno (by simp_all),Bool.false_and];clear hno hyes e;go_enter Tryz.func265,Tryz.ntmps265;go_wp2_with fail;go_ret;exact ⟨rfl,((Below.refl _ _).alloc (Nat.le_refl _) _).alloc (by simp) _⟩
 have e:=Classical.not_not.1 e;subst e
 by_cases e:g ≠ 0
 ·have hq:(g == 0) = false:=by simp [e]
  rw [hno (by simp_all),Bool.false_and];clear hno hyes e;go_enter Tryz.func265,Tryz.ntmps265;go_wp2_with fail;go_ret;exact ⟨rfl,((Below.refl _ _).alloc (Nat.le_refl _) _).alloc (by simp) _⟩
 have e:=Classical.not_not.1 e;subst e
 by_cases e:nm ≠ (⟨#[]⟩:ByteArray)
 ·have hq:nm.toList.isEmpty = false:=str_nz e;have hq3:(nm.toList == []) = false:=str_nz2 e;have hq2:¬ nm.toList = []:=str_nz' e;rw [hno (by simp_all),Bool.false_and];clear hno hyes e;go_enter Tryz.func265,Tryz.ntmps265;go_wp2_with fail;go_ret;exact ⟨rfl,((Below.refl _ _).alloc (Nat.le_refl _) _).alloc (by simp) _⟩
 have e:=Classical.not_not.1 e;subst e
 by_cases e:fn ≠ (⟨#[]⟩:ByteArray)
 ·have hq:fn.toList.isEmpty = false:=str_nz e;have hq3:(fn.toList == []) = false:=str_nz2 e;have hq2:¬ fn.toList = []:=str_nz' e;rw [hno (by simp_all),Bool.false_and];clear hno hyes e;go_enter Tryz.func265,Tryz.ntmps265;go_wp2_with fail;go_ret;exact ⟨rfl,((Below.refl _ _).alloc (Nat.le_refl _) _).alloc (by simp) _⟩
 have e:=Classical.not_not.1 e;subst e
 by_cases e:ar ≠ 0
 ·have hq:(ar == 0) = false:=by simp [e]
  rw [hno (by simp_all),Bool.false_and];clear hno hyes e;go_enter Tryz.func265,Tryz.ntmps265;go_wp2_with fail;go_ret;exact ⟨rfl,((Below.refl _ _).alloc (Nat.le_refl _) _).alloc (by simp) _⟩
 have e:=Classical.not_not.1 e;subst e
 by_cases e:by_ ≠ (⟨#[]⟩:ByteArray)
 ·have hq:by_.toList.isEmpty = false:=str_nz e;have hq3:(by_.toList == []) = false:=str_nz2 e;have hq2:¬ by_.toList = []:=str_nz' e;rw [hno (by simp_all),Bool.false_and];clear hno hyes e;go_enter Tryz.func265,Tryz.ntmps265;go_wp2_with fail;go_ret;exact ⟨rfl,((Below.refl _ _).alloc (Nat.le_refl _) _).alloc (by simp) _⟩
 have e:=Classical.not_not.1 e;subst e
 by_cases e:bt ≠ 0
 ·have hq:(bt == 0) = false:=by simp [e]
  rw [hno (by simp_all),Bool.false_and];clear hno hyes e;go_enter Tryz.func265,Tryz.ntmps265;go_wp2_with fail;go_ret;exact ⟨rfl,((Below.refl _ _).alloc (Nat.le_refl _) _).alloc (by simp) _⟩
 have e:=Classical.not_not.1 e;subst e;rw [hyes ⟨rfl,rfl,rfl,rfl,rfl,rfl,rfl,rfl⟩,Bool.true_and];clear hno hyes;go_enter Tryz.func265,Tryz.ntmps265;go_wp2_with fail;refine (alike0 _ _ _ _ _).mono ?_;rintro e w' ⟨rfl,rfl⟩;go_wp2_with fail;go_ret;exact ⟨rfl,((Below.refl _ _).alloc (Nat.le_refl _) _).alloc (by simp) _⟩
end Go.Proofs.YtpnlnbolhkcnjaaGreat.tm
