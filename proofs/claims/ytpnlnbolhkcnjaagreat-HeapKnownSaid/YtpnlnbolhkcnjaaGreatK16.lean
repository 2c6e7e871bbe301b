/- TmE,TmH,TmO. No condition beyond theirs. -/
import Derived.Test.YtpnlnbolhkcnjaaGreatK15
set_option linter.unusedSimpArgs false
set_option linter.unusedVariables false
set_option maxHeartbeats 4000000
set_option maxRecDepth 100000
namespace Go
theorem RowKit.Below.drewN {B:Nat} {a w:World} (h:RowKit.Below B a w) (n:Nat):RowKit.Below B a (w.drewN n):=⟨h.os,h.tape,h.output,h.size,h.block⟩
end Go
namespace Go.Proofs.YtpnlnbolhkcnjaaGreat.tm
open Go.RowKit mem names
def inB (n a b:Int):Bool:=decide (a ≤ n∧n ≤ b)
theorem inB_t {n a b:Int} (h:a ≤ n∧n ≤ b):inB n a b = true:=decide_eq_true h
theorem inB_f {n a b:Int} (h:¬ (a ≤ n∧n ≤ b)):inB n a b = false:=decide_eq_false h
theorem within (n a b:Int) (w:World):Calls Tryz.prog 255 #[.int .i64 n,.int .i64 a,.int .i64 b] w fun e w'=>e = .returned (.bool (inB n a b))∧w = w':=by
 by_cases h1:a ≤ n
 ·by_cases h2:n ≤ b
  ·rw [inB_t ⟨h1,h2⟩];have q1:decide (a ≤ n) = true:=decide_eq_true h1;have q2:decide (n ≤ b) = true:=decide_eq_true h2;go_enter Tryz.func255,Tryz.ntmps255;go_wp2_with fail;go_ret;exact ⟨rfl,rfl⟩
  ·rw [inB_f (fun h=>h2 h.2)];have q1:decide (a ≤ n) = true:=decide_eq_true h1;have q2:decide (n ≤ b) = false:=decide_eq_false h2;go_enter Tryz.func255,Tryz.ntmps255;go_wp2_with fail;go_ret;exact ⟨rfl,rfl⟩
 ·rw [inB_f (fun h=>h1 h.1)];have q1:decide (a ≤ n) = false:=decide_eq_false h1;go_enter Tryz.func255,Tryz.ntmps255;go_wp2_with fail;go_ret;exact ⟨rfl,rfl⟩
def zeroF:TF:=⟨0,0,0,⟨#[]⟩,⟨#[]⟩,0,⟨#[]⟩,0⟩
def nilV:Value:=.slice none 0 0
def lastByte (s:ByteArray):Nat:=(s.data.toList.getLastD 0).toNat
def okBits (f:TF):Bool:=inB f.bits 0 16384 && decide ((f.bytes.size:Int) = (f.bits + 7) / 8) && decide (f.bits % 8 = 0∨lastByte f.bytes % 2 ^ (8 - (f.bits % 8).toNat) = 0)
def okF (f:TF) (n:Nat) (last:Int):Bool :=
 if f.kind = 1∨f.kind = 8 then true
 else if f.kind = 2 then vName f.name
 else if f.kind = 3∨f.kind = 6 then inB f.int 1 2147483647 && (inB f.gen 1 2147483647 && vName f.name)
 else if f.kind = 4 then inB f.int 0 999 && (inB f.gen 1 2147483647 && (vName f.name && (inB f.arity 0 16 && decide (n ≤ 200))))
 else if f.kind = 5 then vName f.name && (vName f.func && inB f.arity 0 16)
 else if f.kind = 7 then decide (n ≤ 255)
 else if f.kind = 9 then decide (2 ≤ n) && decide (last ≠ 9)
 else if f.kind = 10 then okBits f
 else false
def bareF (f:TF):TF :=
 if f.kind = 1 then { f with int:=0 }
 else if f.kind = 2 then { f with name:=⟨#[]⟩ }
 else if f.kind = 3∨f.kind = 6 then { f with int:=0,gen:=0,name:=⟨#[]⟩ }
 else if f.kind = 4 then { f with int:=0,gen:=0,name:=⟨#[]⟩,arity:=0 }
 else if f.kind = 5 then { f with name:=⟨#[]⟩,func:=⟨#[]⟩,arity:=0 }
 else if f.kind = 10 then { f with bytes:=⟨#[]⟩,bits:=0 }
 else f
def bareV (f:TF) (v:Value):Value:=if f.kind = 4∨f.kind = 7∨f.kind = 9 then nilV else v
def KPost (f:TF) (v:Value) (n:Nat) (last:Int) (w:World) (e:Ending) (w':World):Prop:=e = .returned (.tuple #[aggV (bareF f) (bareV f v),.bool (okF f n last)])∧Below w.heap.size w w'
def cells9 (f:TF) (v:Value):Obj:=.cells #[.int .i64 f.kind,.int .i64 f.int,.int .i64 f.gen,.string f.name,.string f.func,.int .i64 f.arity,v,.string f.bytes,.int .i64 f.bits] 38
structure Nine (w:World) (z:Nat) (f:TF) (v:Value):Prop where
 c0:w.cell? ⟨z,0,none⟩ = some (.int .i64 f.kind)
 c1:w.cell? ⟨z,1,none⟩ = some (.int .i64 f.int)
 c2:w.cell? ⟨z,2,none⟩ = some (.int .i64 f.gen)
 c3:w.cell? ⟨z,3,none⟩ = some (.string f.name)
 c4:w.cell? ⟨z,4,none⟩ = some (.string f.func)
 c5:w.cell? ⟨z,5,none⟩ = some (.int .i64 f.arity)
 c6:w.cell? ⟨z,6,none⟩ = some v
 c7:w.cell? ⟨z,7,none⟩ = some (.string f.bytes)
 c8:w.cell? ⟨z,8,none⟩ = some (.int .i64 f.bits)
 fz:∀ o,w.frozen? ⟨z,o,none⟩ = false
theorem nine_of {w:World} {z:Nat} {f:TF} {v:Value} (h:w.heap[z]? = some (cells9 f v)):Nine w z f v:=by
 unfold cells9 at h;refine ⟨?_,?_,?_,?_,?_,?_,?_,?_,?_,fun o=>by simp only [World.frozen?,h];simp⟩ <;> (simp only [World.cell?,h];rfl)
theorem two_box {w w1:World} {f:TF} {v:Value} (hb:Below ((w.alloc (cells9 f v)).alloc (cells9 zeroF nilV)).heap.size ((w.alloc (cells9 f v)).alloc (cells9 zeroF nilV)) w1):Nine w1 w.heap.size f v∧Nine w1 (w.heap.size + 1) zeroF nilV∧Below w.heap.size w w1:=by
 have h1:=(MapKept.heap_alloc w (cells9 f v)).1;have h2:=(MapKept.heap_alloc (w.alloc (cells9 f v)) (cells9 zeroF nilV)).1;have h3:((w.alloc (cells9 f v)).alloc (cells9 zeroF nilV)).heap[w.heap.size]? = some (cells9 f v):=by rw [Below.heap_alloc _ _ _ (by simp)];exact h1
 refine ⟨nine_of ((hb.block _ (by simp;omega)).trans h3),nine_of ((hb.block _ (by simp)).trans (by simpa using h2)),?_⟩;exact (((Below.refl _ w).alloc (Nat.le_refl _) _).alloc (by simp) _).trans (hb.mono (by simp;omega))
theorem Nine.below {w w1:World} {z B:Nat} {f:TF} {v:Value} (h:Nine w z f v) (hb:Below B w w1) (hz:z < B):Nine w1 z f v:=by
 obtain ⟨h0,h1,h2,h3,h4,h5,h6,h7,h8,hz'⟩:=h;have c:=fun o=>hb.cell (p:=⟨z,o,none⟩) hz;exact ⟨(c 0).trans h0,(c 1).trans h1,(c 2).trans h2,(c 3).trans h3,(c 4).trans h4,(c 5).trans h5,(c 6).trans h6,(c 7).trans h7,(c 8).trans h8,fun o=>(hb.frozen (p:=⟨z,o,none⟩) hz).trans (hz' o)⟩
def shlN (b r:Nat):Nat:=b * 2 ^ r % 256
theorem shl_int (b r:Nat):((b:Int) * 2 ^ r % 256) = (shlN b r:Int):=by
 unfold shlN;rw [Int.natCast_emod,Int.natCast_mul,Int.natCast_pow];rfl
theorem shl_iff (b r:Nat) (hb:b < 256) (h1:1 ≤ r) (h7:r ≤ 7):shlN b r = 0↔b % 2 ^ (8 - r) = 0:=by
 unfold shlN;have ways:r = 1∨r = 2∨r = 3∨r = 4∨r = 5∨r = 6∨r = 7:=by omega
 rcases ways with rfl | rfl | rfl | rfl | rfl | rfl | rfl <;> (simp only [Nat.reducePow,Nat.reduceSub];omega)
theorem last_byte (s:ByteArray) (m:Nat) (h:s.size = m + 1):lastByte s = (s[m]'(by omega)).toNat:=by
 unfold lastByte;have hl:s.data.toList.length = m + 1:=by rw [Array.length_toList];exact h
 rw [List.getLastD_eq_getLast?,List.getLast?_eq_getElem?,hl,Nat.add_sub_cancel,List.getElem?_eq_getElem (by omega)];rfl
theorem kindBits (i g:Int) (nm fn:ByteArray) (ar:Int) (by_:ByteArray) (bt:Int) (p:Option Addr) (n c:Nat) (last:Int) (w:World) :
 Calls Tryz.prog 264 #[aggV ⟨10,i,g,nm,fn,ar,by_,bt⟩ (.slice p n c)] w (KPost ⟨10,i,g,nm,fn,ar,by_,bt⟩ (.slice p n c) n last w):=by
 have hb:bareF ⟨10,i,g,nm,fn,ar,by_,bt⟩ = ⟨10,i,g,nm,fn,ar,⟨#[]⟩,0⟩:=by simp [bareF]
 have hv:bareV ⟨10,i,g,nm,fn,ar,by_,bt⟩ (.slice p n c) = .slice p n c:=by simp [bareV,nilV]
 have ho:okF ⟨10,i,g,nm,fn,ar,by_,bt⟩ n last = okBits ⟨10,i,g,nm,fn,ar,by_,bt⟩:=by simp [okF]
 unfold KPost;rw [hb,hv,ho];unfold aggV okBits;dsimp only;clear hb hv ho
 by_cases h0:inB bt 0 16384 = true
 ·have hw:=fun W=>within bt 0 16384 W;rw [h0] at hw;rw [h0];have hbt:=of_decide_eq_true h0
  by_cases h1:(by_.size:Int) = (bt + 7) / 8
  ·rw [decide_eq_true h1];have q1:((by_.size:Int) == (bt + 7) / 8) = true:=by simp [h1]
   by_cases h2:bt % 8 = 0
   ·have q2:(bt % 8 != 0) = false:=by simp [h2]
    rw [decide_eq_true (Or.inl h2)];clear h1 h2 h0;go_enter Tryz.func264,Tryz.ntmps264;go_wp2_with fail;refine (hw _).mono ?_;rintro e w' ⟨rfl,rfl⟩;go_wp2_with fail
    exact bodyPost_ret (v:=(.tuple #[.agg #[.int .i64 10,.int .i64 i,.int .i64 g,.string nm,.string fn,.int .i64 ar,.slice p n c,.string ⟨#[]⟩,.int .i64 0],.bool true])) (by simp [results,Tryz.results264,go_sem, *]) rfl ⟨by simp,by (repeat' (first | with_reducible exact Below.refl _ _ | with_reducible exact Nat.le_refl _ | with_reducible refine Below.setCell ?_ ?_ _ | with_reducible refine Below.alloc ?_ ?_ _ | (simp;done) | (simp;omega)))⟩
   ·have q2:(bt % 8 != 0) = true:=by simp [h2]
    obtain ⟨m,hm⟩:∃ m,by_.size = m + 1:=⟨by_.size - 1,by omega⟩;have hm2:m < by_.size:=by omega
    have HM:=Lib.hid hm;have hsz:(by_.size:Int) = (m:Int) + 1:=by omega
    have hsz2:(bt + 7) / 8 = (m:Int) + 1:=by omega
    have hmm:(m:Int) < 10000:=by omega
    have hwm:IntKind.i64.wrap (m:Int) = m:=IntWalk.i64_in _ (by omega);obtain ⟨r,hr⟩:∃ r:Nat,bt % 8 = (r:Int):=⟨(bt % 8).toNat,by omega⟩;have hr1:1 ≤ r:=by omega
    have hr7:r ≤ 7:=by omega
    have htm:bt.tmod 8 = (r:Int):=by rw [Int.tmod_eq_emod_of_nonneg hbt.1];exact hr
    have hlast:lastByte by_ = (by_[m]'hm2).toNat:=last_byte by_ m hm;have hb8:(by_[m]'hm2).toNat < 256:=UInt8.toNat_lt _;have hix:∀ w:World,(Instr.index 9 (.string by_) (.int .i64 (m:Int))).run Tryz.prog w = .ok (.int .u8 ((by_[m]'hm2).toNat:Int)) w:=fun w=>by
     rw [run_index_string w 9 by_ .i64 (m:Int) Tryz.underlying9,dif_pos ⟨by omega,by omega⟩];rfl
    have hz:=shl_int (by_[m]'hm2).toNat r;have hiff:shlN (by_[m]'hm2).toNat r = 0↔lastByte by_ % 2 ^ (8 - (bt % 8).toNat) = 0:=by
     rw [hlast,hr,Int.toNat_natCast];exact shl_iff _ r hb8 hr1 hr7
    clear hlast hm h0;generalize (by_[m]'hm2).toNat = b at *;have HZ:=Lib.hid hz;clear hz;generalize shlN b r = s at *;have hr0:((r:Int) != 0) = true:=by simp;omega
    by_cases h3:s = 0
    ·have H3:=Lib.hid h3;have hfin:(decide (bt % 8 = 0∨lastByte by_ % 2 ^ (8 - (bt % 8).toNat) = 0)) = true:=decide_eq_true (.inr (hiff.1 h3));rw [hfin];clear hfin hiff h3 h1 h2 q1 q2;go_enter Tryz.func264,Tryz.ntmps264;go_wp2_with fail;refine (hw _).mono ?_;rintro e w' ⟨rfl,rfl⟩;go_wp2_with fail;go_quiet (fail)
     go_wp2_with fail;exact bodyPost_ret (v:=(.tuple #[.agg #[.int .i64 10,.int .i64 i,.int .i64 g,.string nm,.string fn,.int .i64 ar,.slice p n c,.string ⟨#[]⟩,.int .i64 0],.bool true])) (by simp [results,Tryz.results264,go_sem, *];rw [HZ.out,H3.out];rfl) rfl ⟨by simp,by (repeat' (first | with_reducible exact Below.refl _ _ | with_reducible exact Nat.le_refl _ | with_reducible refine Below.setCell ?_ ?_ _ | with_reducible refine Below.alloc ?_ ?_ _ | with_reducible refine RowKit.Below.drewN ?_ _ | (simp;done) | (simp;omega)))⟩
    ·have H3:=Lib.hid h3;have hfin:(decide (bt % 8 = 0∨lastByte by_ % 2 ^ (8 - (bt % 8).toNat) = 0)) = false:=decide_eq_false (by intro h;rcases h with h | h;exact h2 h;exact h3 (hiff.2 h));rw [hfin];clear hfin hiff h3 h1 h2 q1 q2;go_enter Tryz.func264,Tryz.ntmps264;go_wp2_with fail;refine (hw _).mono ?_;rintro e w' ⟨rfl,rfl⟩;go_wp2_with fail;go_quiet (fail)
     go_wp2_with fail;exact bodyPost_ret (v:=(.tuple #[.agg #[.int .i64 10,.int .i64 i,.int .i64 g,.string nm,.string fn,.int .i64 ar,.slice p n c,.string ⟨#[]⟩,.int .i64 0],.bool false])) (by simp [results,Tryz.results264,go_sem, *];rw [HZ.out];have:=H3.out;omega) rfl ⟨by simp,by (repeat' (first | with_reducible exact Below.refl _ _ | with_reducible exact Nat.le_refl _ | with_reducible refine Below.setCell ?_ ?_ _ | with_reducible refine Below.alloc ?_ ?_ _ | with_reducible refine RowKit.Below.drewN ?_ _ | (simp;done) | (simp;omega)))⟩
  ·rw [decide_eq_false h1];have q1:((by_.size:Int) == (bt + 7) / 8) = false:=by simp [h1]
   clear h1 h0;go_enter Tryz.func264,Tryz.ntmps264;go_wp2_with fail;refine (hw _).mono ?_;rintro e w' ⟨rfl,rfl⟩;go_wp2_with fail;exact bodyPost_ret (v:=(.tuple #[.agg #[.int .i64 10,.int .i64 i,.int .i64 g,.string nm,.string fn,.int .i64 ar,.slice p n c,.string ⟨#[]⟩,.int .i64 0],.bool false])) (by simp [results,Tryz.results264,go_sem, *]) rfl ⟨by simp,by (repeat' (first | with_reducible exact Below.refl _ _ | with_reducible exact Nat.le_refl _ | with_reducible refine Below.setCell ?_ ?_ _ | with_reducible refine Below.alloc ?_ ?_ _ | (simp;done) | (simp;omega)))⟩
 ·have h0:inB bt 0 16384 = false:=by simpa using h0
  have hw:=fun W=>within bt 0 16384 W;rw [h0] at hw;rw [h0];go_enter Tryz.func264,Tryz.ntmps264;go_wp2_with fail;refine (hw _).mono ?_;rintro e w' ⟨rfl,rfl⟩;go_wp2_with fail
  exact bodyPost_ret (v:=(.tuple #[.agg #[.int .i64 10,.int .i64 i,.int .i64 g,.string nm,.string fn,.int .i64 ar,.slice p n c,.string ⟨#[]⟩,.int .i64 0],.bool false])) (by simp [results,Tryz.results264,go_sem, *]) rfl ⟨by simp,by (repeat' (first | with_reducible exact Below.refl _ _ | with_reducible exact Nat.le_refl _ | with_reducible refine Below.setCell ?_ ?_ _ | with_reducible refine Below.alloc ?_ ?_ _ | (simp;done) | (simp;omega)))⟩
theorem between (n a b:Int) (w:World):Calls Tryz.prog 200 #[.int .i64 n,.int .i64 a,.int .i64 b] w fun e w'=>e = .returned (.bool (inB n a b))∧w = w':=by
 by_cases h1:a ≤ n
 ·by_cases h2:n ≤ b
  ·rw [inB_t ⟨h1,h2⟩];have q1:decide (a ≤ n) = true:=decide_eq_true h1;have q2:decide (n ≤ b) = true:=decide_eq_true h2;go_enter Tryz.func200,Tryz.ntmps200;go_wp2_with fail;go_ret;exact ⟨rfl,rfl⟩
  ·rw [inB_f (fun h=>h2 h.2)];have q1:decide (a ≤ n) = true:=decide_eq_true h1;have q2:decide (n ≤ b) = false:=decide_eq_false h2;go_enter Tryz.func200,Tryz.ntmps200;go_wp2_with fail;go_ret;exact ⟨rfl,rfl⟩
 ·rw [inB_f (fun h=>h1 h.1)];have q1:decide (a ≤ n) = false:=decide_eq_false h1;go_enter Tryz.func200,Tryz.ntmps200;go_wp2_with fail;go_ret;exact ⟨rfl,rfl⟩
end Go.Proofs.YtpnlnbolhkcnjaaGreat.tm
