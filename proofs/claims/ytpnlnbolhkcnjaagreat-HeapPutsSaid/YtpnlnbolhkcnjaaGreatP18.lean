/- TmQ,TmR. No condition beyond theirs. -/
import Derived.Test.YtpnlnbolhkcnjaaGreatP16
import Derived.Test.YtpnlnbolhkcnjaaGreatP17
set_option linter.unusedSimpArgs false
set_option linter.unusedVariables false
set_option maxHeartbeats 40000000
set_option maxRecDepth 100000
namespace Go.Proofs.YtpnlnbolhkcnjaaGreat.tm
open Go.RowKit mem names
theorem bitsT (k i g:Int) (nm fn:ByteArray) (ar:Int) (by_:ByteArray) (bt:Int) (p:Option Addr) (n c:Nat) (w:World) :
 Calls Tryz.prog 201 #[aggV ⟨k,i,g,nm,fn,ar,by_,bt⟩ (.slice p n c)] w (BPost (okBits ⟨k,i,g,nm,fn,ar,by_,bt⟩) w):=by
 unfold aggV okBits BPost;dsimp only
 by_cases h0:inB bt 0 16384 = true
 ·rw [h0];have hbt:=of_decide_eq_true h0;have hba:(0:Int) ≤ bt:=hbt.1;have hbb:bt ≤ 16384:=hbt.2;have p1:decide (bt < 0) = false:=decide_eq_false (by omega);have p2:decide (16384 < bt) = false:=decide_eq_false (by omega);have hw7:IntKind.i64.wrap (bt + 7) = bt + 7:=IntWalk.i64_in _ (by omega);have hd7:(bt + 7).tdiv 8 = (bt + 7) / 8:=Int.tdiv_eq_ediv_of_nonneg (by omega)
  by_cases h1:(by_.size:Int) = (bt + 7) / 8
  ·rw [decide_eq_true h1];have q1:((by_.size:Int) != (bt + 7) / 8) = false:=by simp [h1]
   by_cases h2:bt % 8 = 0
   ·have q2:(bt % 8 == 0) = true:=by simp [h2]
    rw [decide_eq_true (Or.inl h2)];clear h1 h2 h0;go_enter Tryz.func201,Tryz.ntmps201;go_wp2_with fail;go_ret;exact ⟨rfl,(Below.refl _ _).alloc (Nat.le_refl _) _⟩
   ·obtain ⟨m,hm⟩:∃ m,by_.size = m + 1:=⟨by_.size - 1,by omega⟩;have hm2:m < by_.size:=by omega
    have hsz:(by_.size:Int) = (m:Int) + 1:=by omega
    have hsz2:(bt + 7) / 8 = (m:Int) + 1:=by omega
    have hmm:(m:Int) < 10000:=by omega
    have hwm:IntKind.i64.wrap (m:Int) = m:=IntWalk.i64_in _ (by omega);obtain ⟨r,hr⟩:∃ r:Nat,bt % 8 = (r:Int):=⟨(bt % 8).toNat,by omega⟩;have hr1:1 ≤ r:=by omega
    have hr7:r ≤ 7:=by omega
    have htm:bt.tmod 8 = (r:Int):=by rw [Int.tmod_eq_emod_of_nonneg hbt.1];exact hr
    have hlast:lastByte by_ = (by_[m]'hm2).toNat:=last_byte by_ m hm;have hix:∀ w:World,(Instr.index 9 (.string by_) (.int .i64 (m:Int))).run Tryz.prog w = .ok (.int .u8 ((by_[m]'hm2).toNat:Int)) w:=fun w=>by
     rw [run_index_string w 9 by_ .i64 (m:Int) Tryz.underlying9,dif_pos ⟨by omega,by omega⟩];rfl
    have hb8:(by_[m]'hm2).toNat < 256:=UInt8.toNat_lt _;have hiff:(decide (bt % 8 = 0∨lastByte by_ % 2 ^ (8 - (bt % 8).toNat) = 0)) = decide ((by_[m]'hm2).toNat % 2 ^ (8 - r) = 0):=by
     rw [hlast,hr,Int.toNat_natCast];apply decide_eq_decide.2
     constructor
     ·rintro (h | h)
      ·omega
      ·exact h
     ·exact .inr
    rw [hiff];have q2:((r:Int) == 0) = false:=by simp;omega
    have q1':((m:Int) + 1 != (m:Int) + 1) = false:=by simp
    clear hlast hm h0 h1 h2 hiff q1;generalize (by_[m]'hm2).toNat = b at *;have HR:=Lib.hid hr;clear hr;have hb8i:(b:Int) < 256:=by omega
    go_enter Tryz.func201,Tryz.ntmps201;go_wp2_with fail;go_loop [4,5] (fun a b=>∃ j u:Nat,a = .int .i64 u∧b = .int .i64 j∧r ≤ j∧j ≤ 8∧Hid (u = 2 ^ (j - r))∧1 ≤ u∧u ≤ 128) (fun a b=>8 - (intOf b).toNat)
    case atStart=>exact ⟨r,1,rfl,rfl,by omega,by omega,Lib.hid (by simp),by omega,by omega⟩
    case round =>
     obtain ⟨j,u,rfl,rfl,hj1,hj8,hu,hu1,hu2⟩:=hrel
     by_cases hlt:j < 8
     ·have hw2:IntKind.i64.wrap ((u:Int) * 2) = (u:Int) * 2:=IntWalk.i64_in _ (by omega);have hu3:u * 2 = 2 ^ (j + 1 - r):=by
       rw [hu.out,show j + 1 - r = (j - r) + 1 by omega,Nat.pow_succ]
      have hu4:u * 2 ≤ 128:=by
       rw [hu3]
       calc 2 ^ (j + 1 - r) ≤ 2 ^ 7:=Nat.pow_le_pow_right (by omega) (by omega)
        _ = 128:=rfl
      have HU3:=Lib.hid hu3;clear hu3;go_wp2_with fail;go_round
      case rel=>exact ⟨j + 1,u * 2,by simp,by go_num,by omega,by omega,HU3,by omega,by omega⟩
      case measure=>simp [intOf];omega
     ·obtain rfl:j = 8:=by omega
      have hu0:((u:Int) == 0) = false:=by simp;omega
      have hu0':(u:Int) ≠ 0:=by omega
      have htm2:(b:Int).tmod (u:Int) = ((b % u:Nat):Int):=by rw [Int.tmod_eq_emod_of_nonneg (by omega)];rfl
      have hfin:decide (b % 2 ^ (8 - r) = 0) = (((b % u:Nat):Int) == 0):=by
       rw [hu.out]
       by_cases e:b % 2 ^ (8 - r) = 0
       ·rw [decide_eq_true e,e];rfl
       ·rw [decide_eq_false e];symm;rw [beq_eq_false_iff_ne];omega
      have HF:=Lib.hid hfin;clear hfin;go_wp2_with fail;go_ret;exact ⟨by simp [HF.out],(Below.refl _ _).alloc (Nat.le_refl _) _⟩
  ·rw [decide_eq_false h1];have q1:((by_.size:Int) != (bt + 7) / 8) = true:=by simp [h1]
   clear h1 h0;go_enter Tryz.func201,Tryz.ntmps201;go_wp2_with fail;go_ret;exact ⟨rfl,(Below.refl _ _).alloc (Nat.le_refl _) _⟩
 ·have h0:inB bt 0 16384 = false:=by simpa using h0
  have hbt:=of_decide_eq_false h0;rw [h0]
  by_cases h1:bt < 0
  ·have p1:decide (bt < 0) = true:=decide_eq_true h1;go_enter Tryz.func201,Tryz.ntmps201;go_wp2_with fail;go_ret;exact ⟨rfl,(Below.refl _ _).alloc (Nat.le_refl _) _⟩
  ·have p1:decide (bt < 0) = false:=decide_eq_false h1;have p2:decide (16384 < bt) = true:=decide_eq_true (by omega);clear hbt h0;go_enter Tryz.func201,Tryz.ntmps201;go_wp2_with fail;go_ret;exact ⟨rfl,(Below.refl _ _).alloc (Nat.le_refl _) _⟩
def RefS (n:Nat):Prop:=∀ (w:World) (B:Nat) (v:Value) (t:Tm (n + 1)),B ≤ w.heap.size→ItemsAt w B n v t.items→Calls Tryz.prog 159 #[aggV t.f v] w (BPost (formedT t) w)
theorem formEl {n:Nat} (ih:∀ m,n = m + 1→RefS m) (w:World) (B:Nat) (p:Option Addr) (len c:Nat) (l:List (Tm n)) (hlen:l.length = len) (hB:B ≤ w.heap.size) (hI:ItemsAt w B n (.slice p len c) l) :
 ∃ bs:Nat→Bool,(∀ j,j < len→∃ g o f' q m c',p = some ⟨g,o,none⟩∧g < w.heap.size∧Cells w g (o + j * 9) f' (.slice q m c')∧∀ W,Below w.heap.size w W→Calls Tryz.prog 159 #[aggV f' (.slice q m c')] W (BPost (bs j) W)) ∧
  ((∀ j,j < len→bs j = true)→formedL n l = true)∧(∀ j,j < len→bs j = false→formedL n l = false):=by
 cases n with
 | zero =>
  obtain rfl:=Tm.nil0 l;subst hlen;exact ⟨fun _=>true,fun j hj=>absurd hj (by simp),fun _=>rfl,fun j hj=>absurd hj (by simp)⟩
 | succ n =>
  subst hlen;obtain ⟨bs,hbs⟩:∃ bs:Nat→Bool,∀ j,(h:j < l.length)→bs j = formedT l[j]:=⟨fun j=>if h:j < l.length then formedT l[j] else true,fun j h=>dif_pos h⟩;refine ⟨bs,fun j hj=>?_,fun h=>formed_yes (fun k hk=>by rw [← hbs k hk];exact h k hk),fun j hj h=>formed_no hj (by rw [← hbs j hj];exact h)⟩;obtain ⟨g,o,c2,e,_,_,hg,hx⟩:=hI.at_ (by intro e;subst e;simp at hj);obtain ⟨u,hC,hI2⟩:=hx j hj;simp only [Value.slice.injEq] at e;obtain ⟨q,c',rfl,_,_⟩:=hI2.shape;refine ⟨g,o,l[j].f,q,_,c',e.1,by omega,hC,fun W hb=>?_⟩;rw [hbs j hj]
  exact ih n rfl W B _ l[j] (Nat.le_trans hB hb.size) (hI2.below hb hB)
theorem inB_k {k:Int} (h:¬ (k = 1∨k = 2∨k = 3∨k = 4∨k = 5∨k = 6∨k = 7∨k = 8∨k = 9∨k = 10)) (f:TF) (hf:f.kind = k) (n:Nat) (last:Int):okF f n last = false:=by
 unfold okF;rw [hf,if_neg (by omega),if_neg (by omega),if_neg (by omega),if_neg (by omega),if_neg (by omega),if_neg (by omega),if_neg (by omega),if_neg (by omega)]
theorem bareV_len (f:TF) (p:Option Addr) (len c:Nat):∃ p3 n3 c3,bareV f (.slice p len c) = .slice p3 n3 c3∧n3 = (if f.kind = 4∨f.kind = 7∨f.kind = 9 then 0 else len):=by
 unfold bareV nilV
 by_cases h:f.kind = 4∨f.kind = 7∨f.kind = 9
 ·rw [if_pos h,if_pos h];exact ⟨_,_,_,rfl,rfl⟩
 ·rw [if_neg h,if_neg h];exact ⟨_,_,_,rfl,rfl⟩
theorem refStep {n:Nat} (ih:∀ m,n = m + 1→RefS m):RefS n:=by
 intro w B v t hB hI;obtain ⟨p,c,rfl,hlc,hcm⟩:=hI.shape;unfold maxLen at hcm;generalize hlen:t.items.length = len at *;obtain ⟨bs,hEl,hyes,hno⟩:=formEl ih w B p len c t.items hlen hB hI;have hlast:=fun h2=>last_cell hI h2;clear ih hI;have hform:formedT t = (inB t.f.kind 0 10 && (okF t.f len (lastK n t.items) && bareOK t.f len) && formedL n t.items):=by unfold formedT okT;rw [hlen]
 obtain ⟨p3,n3,c3,hbv,hn3⟩:=bareV_len t.f p len c;have hbo:bareOK t.f len = (eqB { bareF t.f with kind:=0 } zeroF && decide (n3 = 0)):=by unfold bareOK;rw [hn3]
 have hBare:=fun W=>bare t.f p len c W;rw [hbv] at hBare;have hZero:=fun W=>zeroT { bareF t.f with kind:=0 } p3 n3 c3 W;rw [← hbo] at hZero;clear hbo hbv hn3;generalize lastK n t.items = last at *;generalize formedL n t.items = fl at *;generalize formedT t = r at *;generalize hf:t.f = f at *;clear hf hlen;generalize bareOK f len = zb at *;obtain ⟨k,i,gg,nm,fn,ar,by_,bt⟩:=f;generalize bareF ⟨k,i,gg,nm,fn,ar,by_,bt⟩ = bf at *;obtain ⟨k2,i2,g2,nm2,fn2,ar2,by2,bt2⟩:=bf;unfold aggV at *;unfold BPost at hZero;dsimp only at *;have HBare:=Lib.hid hBare;have HZero:=Lib.hid hZero;have HF:=Lib.hid hform
 have HEl:=Lib.hid hEl;have HLast:=Lib.hid hlast;have HYes:=Lib.hid hyes;have HNo:=Lib.hid hno;clear hBare hZero hform hEl hlast hyes hno;go_enter Tryz.func159,Tryz.ntmps159;go_wp2_with fail;obtain ⟨W0,hW⟩:∃ x,x = w.alloc (.cells #[.int .i64 k,.int .i64 i,.int .i64 gg,.string nm,.string fn,.int .i64 ar,.slice p len c,.string by_,.int .i64 bt] 38):=⟨_,rfl⟩;have hN0:Nine W0 w.heap.size ⟨k,i,gg,nm,fn,ar,by_,bt⟩ (.slice p len c):=by rw [hW];exact nine_of (MapKept.heap_alloc w _).1
 have hbw:Below w.heap.size w W0:=by rw [hW];exact (Below.refl _ _).alloc (Nat.le_refl _) _
 have hsz:W0.heap.size = w.heap.size + 1:=by rw [hW];simp
 rw [← hW];clear hW;have HSZ:=Lib.hid hsz;clear hsz;have HN0:=Lib.hid hN0;clear hN0;refine (HBare.out _).mono ?_;rintro e w1 ⟨rfl,hb1⟩;go_wp2_with fail;refine (HZero.out _).mono ?_;rintro e w2 ⟨rfl,hb2⟩;have hb:Below W0.heap.size W0 w2:=hb1.trans (hb2.mono hb1.size);clear hb1 hb2 HBare HZero
 by_cases hz:zb = true
 ·subst hz;go_wp2_with fail;go_loopw [3] (fun s wr=>∃ j:Nat,s = .int .i64 j∧j ≤ len∧Hid (∀ q,q < j→bs q = true)∧Below W0.heap.size W0 wr) (fun s _=>len - (intOf s).toNat)
  case atStart=>exact ⟨0,rfl,by omega,Lib.hid (fun q h=>by omega),hb⟩
  case round =>
   obtain ⟨j,rfl,hj,HA,hbr⟩:=hrel;have hbx:Below w.heap.size w wr:=hbw.trans (hbr.mono hbw.size);have hN:=HN0.out.below hbr (by have:=HSZ.out;omega);obtain ⟨x0,x1,x2,x3,x4,x5,x6,x7,x8,xz⟩:=hN;dsimp only at x0 x1 x2 x3 x4 x5 x6 x7 x8
   by_cases hlt:j < len
   ·obtain ⟨g0,o0,f',q,m,c',rfl,hg0,hC,hCall⟩:=HEl.out j hlt;have hC:=hC.same (hbx.block g0 hg0);obtain ⟨y0,y1,y2,y3,y4,y5,y6,y7,y8⟩:=hC;have HC:=Lib.hid (hCall wr hbx);clear hCall;unfold aggV BPost at HC;go_wp2_with fail;refine HC.out.mono ?_;rintro e w3 ⟨rfl,hb3⟩;have hb4:=hbr.trans (hb3.mono hbr.size)
    by_cases hbj:bs j = true
    ·have HA2:Hid (∀ q,q < j + 1→bs q = true):=Lib.hid (fun q hq=>by
      by_cases e:q = j
      ·subst e;exact hbj
      ·exact HA.out q (by omega))
     rw [hbj];clear hbj;go_wp2_with fail;go_roundw
     case rel=>exact ⟨j + 1,by go_num,by omega,HA2,hb4⟩
     case measure=>simp [intOf];omega
    ·have hbj:bs j = false:=by simpa using hbj
     have hfl:=HNo.out j hlt hbj;obtain rfl:r = false:=by rw [HF.out,hfl,Bool.and_false]
     rw [hbj];clear hbj hfl;go_wp2_with fail;go_ret;exact ⟨rfl,hbw.trans (hb4.mono hbw.size)⟩
   ·have hfl:fl = true:=HYes.out (fun q hq=>HA.out q (by omega));have hr:r = (inB k 0 10 && okF ⟨k,i,gg,nm,fn,ar,by_,bt⟩ len last):=by rw [HF.out,hfl,Bool.and_true,Bool.and_true]
    have HR:=Lib.hid hr;clear hfl hr HF HEl HYes HNo HA;have hjl:len ≤ j:=by omega
    have HXB:=Lib.hid hbx
    by_cases ways:k = 1∨k = 2∨k = 3∨k = 4∨k = 5∨k = 6∨k = 7∨k = 8∨k = 9∨k = 10
    ·rcases ways with rfl | rfl | rfl | rfl | rfl | rfl | rfl | rfl | rfl | rfl
     ·have hr:r = true:=by rw [HR.out,inB_t (by omega),Bool.true_and];simp [okF]
      clear HR HLast;obtain rfl:r = true:=hr;go_wp2_with fail;go_ret;exact ⟨rfl,hbw.trans (hbr.mono hbw.size)⟩
     ·have hr:r = vName nm:=by rw [HR.out,inB_t (by omega),Bool.true_and];simp [okF]
      clear HR HLast
      by_cases h0:vName nm = true
      ·obtain rfl:r = true:=by rw [hr,h0];try rfl
       have hc0:=fun W=>RName nm W;rw [h0] at hc0;clear h0 hr;have H0:=Lib.hid hc0;clear hc0;go_wp2_with fail;refine (H0.out _).mono ?_;rintro e v1 ⟨rfl,hv1⟩;have hbr1:=hbr.trans (hv1.mono hbr.size);obtain ⟨x0,x1,x2,x3,x4,x5,x6,x7,x8,xz⟩:=HN0.out.below hbr1 (by have:=HSZ.out;omega);dsimp only at x0 x1 x2 x3 x4 x5 x6 x7 x8;go_wp2_with fail;go_ret;exact ⟨rfl,hbw.trans (hbr1.mono hbw.size)⟩
      ·have h0:vName nm = false:=by simpa using h0
       obtain rfl:r = false:=by rw [hr,h0];try rfl
       have hc0:=fun W=>RName nm W;rw [h0] at hc0;clear h0 hr;have H0:=Lib.hid hc0;clear hc0;go_wp2_with fail;refine (H0.out _).mono ?_;rintro e v1 ⟨rfl,hv1⟩;have hbr1:=hbr.trans (hv1.mono hbr.size);obtain ⟨x0,x1,x2,x3,x4,x5,x6,x7,x8,xz⟩:=HN0.out.below hbr1 (by have:=HSZ.out;omega);dsimp only at x0 x1 x2 x3 x4 x5 x6 x7 x8;go_wp2_with fail;go_ret;exact ⟨rfl,hbw.trans (hbr1.mono hbw.size)⟩
     ·have hr:r = (inB i 1 2147483647 && (inB gg 1 2147483647 && vName nm)):=by rw [HR.out,inB_t (by omega),Bool.true_and];simp [okF]
      clear HR HLast
      by_cases h0:inB i 1 2147483647 = true
      ·by_cases h1:inB gg 1 2147483647 = true
       ·by_cases h2:vName nm = true
        ·obtain rfl:r = true:=by rw [hr,h0,h1,h2];try rfl
         have hc0:=fun W=>between i 1 2147483647 W;rw [h0] at hc0;have hc1:=fun W=>between gg 1 2147483647 W;rw [h1] at hc1;have hc2:=fun W=>RName nm W;rw [h2] at hc2;clear h0 h1 h2 hr;have H0:=Lib.hid hc0;clear hc0;have H1:=Lib.hid hc1;clear hc1;have H2:=Lib.hid hc2;clear hc2;go_wp2_with fail;refine (H0.out _).mono ?_;rintro e w' ⟨rfl,rfl⟩;go_wp2_with fail;refine (H1.out _).mono ?_;rintro e w' ⟨rfl,rfl⟩;go_wp2_with fail;refine (H2.out _).mono ?_;rintro e v1 ⟨rfl,hv1⟩;have hbr1:=hbr.trans (hv1.mono hbr.size);obtain ⟨x0,x1,x2,x3,x4,x5,x6,x7,x8,xz⟩:=HN0.out.below hbr1 (by have:=HSZ.out;omega)
         dsimp only at x0 x1 x2 x3 x4 x5 x6 x7 x8;go_wp2_with fail;go_ret;exact ⟨rfl,hbw.trans (hbr1.mono hbw.size)⟩
        ·have h2:vName nm = false:=by simpa using h2
         obtain rfl:r = false:=by rw [hr,h0,h1,h2];try rfl
         have hc0:=fun W=>between i 1 2147483647 W;rw [h0] at hc0;have hc1:=fun W=>between gg 1 2147483647 W;rw [h1] at hc1;have hc2:=fun W=>RName nm W;rw [h2] at hc2;clear h0 h1 h2 hr;have H0:=Lib.hid hc0;clear hc0;have H1:=Lib.hid hc1;clear hc1;have H2:=Lib.hid hc2;clear hc2;go_wp2_with fail;refine (H0.out _).mono ?_;rintro e w' ⟨rfl,rfl⟩;go_wp2_with fail;refine (H1.out _).mono ?_;rintro e w' ⟨rfl,rfl⟩;go_wp2_with fail;refine (H2.out _).mono ?_;rintro e v1 ⟨rfl,hv1⟩;have hbr1:=hbr.trans (hv1.mono hbr.size);obtain ⟨x0,x1,x2,x3,x4,x5,x6,x7,x8,xz⟩:=HN0.out.below hbr1 (by have:=HSZ.out;omega)
         dsimp only at x0 x1 x2 x3 x4 x5 x6 x7 x8;go_wp2_with fail;go_ret;exact ⟨rfl,hbw.trans (hbr1.mono hbw.size)⟩
       ·have h1:inB gg 1 2147483647 = false:=by simpa using h1
        obtain rfl:r = false:=by rw [hr,h0,h1];try rfl
        have hc0:=fun W=>between i 1 2147483647 W;rw [h0] at hc0;have hc1:=fun W=>between gg 1 2147483647 W;rw [h1] at hc1;clear h0 h1 hr;have H0:=Lib.hid hc0;clear hc0;have H1:=Lib.hid hc1;clear hc1;go_wp2_with fail;refine (H0.out _).mono ?_;rintro e w' ⟨rfl,rfl⟩;go_wp2_with fail;refine (H1.out _).mono ?_;rintro e w' ⟨rfl,rfl⟩;go_wp2_with fail;go_ret;exact ⟨rfl,hbw.trans (hbr.mono hbw.size)⟩
      ·have h0:inB i 1 2147483647 = false:=by simpa using h0
       obtain rfl:r = false:=by rw [hr,h0];try rfl
       have hc0:=fun W=>between i 1 2147483647 W;rw [h0] at hc0;clear h0 hr;have H0:=Lib.hid hc0;clear hc0;go_wp2_with fail;refine (H0.out _).mono ?_;rintro e w' ⟨rfl,rfl⟩;go_wp2_with fail;go_ret;exact ⟨rfl,hbw.trans (hbr.mono hbw.size)⟩
     ·have hr:r = (inB i 0 999 && (inB gg 1 2147483647 && (vName nm && (inB ar 0 16 && decide (len ≤ 200))))):=by rw [HR.out,inB_t (by omega),Bool.true_and];simp [okF]
      clear HR HLast
      by_cases h0:inB i 0 999 = true
      ·by_cases h1:inB gg 1 2147483647 = true
       ·by_cases h2:vName nm = true
        ·by_cases h3:inB ar 0 16 = true
         ·by_cases h4:decide (len ≤ 200) = true
          ·obtain rfl:r = true:=by rw [hr,h0,h1,h2,h3,h4];try rfl
           have hc0:=fun W=>between i 0 999 W;rw [h0] at hc0;have hc1:=fun W=>between gg 1 2147483647 W;rw [h1] at hc1;have hc2:=fun W=>RName nm W;rw [h2] at hc2;have hc3:=fun W=>between ar 0 16 W;rw [h3] at hc3;have d4:decide ((len:Int) ≤ 200) = true:=by have:=of_decide_eq_true h4;exact decide_eq_true (by omega)
           clear h0 h1 h2 h3 h4 hr;have H0:=Lib.hid hc0;clear hc0;have H1:=Lib.hid hc1;clear hc1;have H2:=Lib.hid hc2;clear hc2;have H3:=Lib.hid hc3;clear hc3;go_wp2_with fail;refine (H0.out _).mono ?_;rintro e w' ⟨rfl,rfl⟩;go_wp2_with fail;refine (H1.out _).mono ?_;rintro e w' ⟨rfl,rfl⟩;go_wp2_with fail;refine (H2.out _).mono ?_;rintro e v1 ⟨rfl,hv1⟩;have hbr1:=hbr.trans (hv1.mono hbr.size);obtain ⟨x0,x1,x2,x3,x4,x5,x6,x7,x8,xz⟩:=HN0.out.below hbr1 (by have:=HSZ.out;omega);dsimp only at x0 x1 x2 x3 x4 x5 x6 x7 x8;go_wp2_with fail;refine (H3.out _).mono ?_;rintro e w' ⟨rfl,rfl⟩
           go_wp2_with fail;go_ret;exact ⟨rfl,hbw.trans (hbr1.mono hbw.size)⟩
          ·have h4:decide (len ≤ 200) = false:=by simpa using h4
           obtain rfl:r = false:=by rw [hr,h0,h1,h2,h3,h4];try rfl
           have hc0:=fun W=>between i 0 999 W;rw [h0] at hc0;have hc1:=fun W=>between gg 1 2147483647 W;rw [h1] at hc1;have hc2:=fun W=>RName nm W;rw [h2] at hc2;have hc3:=fun W=>between ar 0 16 W;rw [h3] at hc3;have d4:decide ((len:Int) ≤ 200) = false:=by have:=of_decide_eq_false h4;exact decide_eq_false (by omega)
           clear h0 h1 h2 h3 h4 hr;have H0:=Lib.hid hc0;clear hc0;have H1:=Lib.hid hc1;clear hc1;have H2:=Lib.hid hc2;clear hc2;have H3:=Lib.hid hc3;clear hc3;go_wp2_with fail;refine (H0.out _).mono ?_;rintro e w' ⟨rfl,rfl⟩;go_wp2_with fail;refine (H1.out _).mono ?_;rintro e w' ⟨rfl,rfl⟩;go_wp2_with fail;refine (H2.out _).mono ?_;rintro e v1 ⟨rfl,hv1⟩;have hbr1:=hbr.trans (hv1.mono hbr.size);obtain ⟨x0,x1,x2,x3,x4,x5,x6,x7,x8,xz⟩:=HN0.out.below hbr1 (by have:=HSZ.out;omega);dsimp only at x0 x1 x2 x3 x4 x5 x6 x7 x8;go_wp2_with fail;refine (H3.out _).mono ?_;rintro e w' ⟨rfl,rfl⟩
           go_wp2_with fail;go_ret;exact ⟨rfl,hbw.trans (hbr1.mono hbw.size)⟩
         ·have h3:inB ar 0 16 = false:=by simpa using h3
          obtain rfl:r = false:=by rw [hr,h0,h1,h2,h3];try rfl
          have hc0:=fun W=>between i 0 999 W;rw [h0] at hc0;have hc1:=fun W=>between gg 1 2147483647 W;rw [h1] at hc1;have hc2:=fun W=>RName nm W;rw [h2] at hc2;have hc3:=fun W=>between ar 0 16 W;rw [h3] at hc3;clear h0 h1 h2 h3 hr;have H0:=Lib.hid hc0;clear hc0;have H1:=Lib.hid hc1;clear hc1;have H2:=Lib.hid hc2;clear hc2;have H3:=Lib.hid hc3;clear hc3;go_wp2_with fail;refine (H0.out _).mono ?_;rintro e w' ⟨rfl,rfl⟩;go_wp2_with fail;refine (H1.out _).mono ?_;rintro e w' ⟨rfl,rfl⟩;go_wp2_with fail;refine (H2.out _).mono ?_;rintro e v1 ⟨rfl,hv1⟩;have hbr1:=hbr.trans (hv1.mono hbr.size)
          obtain ⟨x0,x1,x2,x3,x4,x5,x6,x7,x8,xz⟩:=HN0.out.below hbr1 (by have:=HSZ.out;omega);dsimp only at x0 x1 x2 x3 x4 x5 x6 x7 x8;go_wp2_with fail;refine (H3.out _).mono ?_;rintro e w' ⟨rfl,rfl⟩;go_wp2_with fail;go_ret;exact ⟨rfl,hbw.trans (hbr1.mono hbw.size)⟩
        ·have h2:vName nm = false:=by simpa using h2
         obtain rfl:r = false:=by rw [hr,h0,h1,h2];try rfl
         have hc0:=fun W=>between i 0 999 W;rw [h0] at hc0;have hc1:=fun W=>between gg 1 2147483647 W;rw [h1] at hc1;have hc2:=fun W=>RName nm W;rw [h2] at hc2;clear h0 h1 h2 hr;have H0:=Lib.hid hc0;clear hc0;have H1:=Lib.hid hc1;clear hc1;have H2:=Lib.hid hc2;clear hc2;go_wp2_with fail;refine (H0.out _).mono ?_;rintro e w' ⟨rfl,rfl⟩;go_wp2_with fail;refine (H1.out _).mono ?_;rintro e w' ⟨rfl,rfl⟩;go_wp2_with fail;refine (H2.out _).mono ?_;rintro e v1 ⟨rfl,hv1⟩;have hbr1:=hbr.trans (hv1.mono hbr.size);obtain ⟨x0,x1,x2,x3,x4,x5,x6,x7,x8,xz⟩:=HN0.out.below hbr1 (by have:=HSZ.out;omega)
         dsimp only at x0 x1 x2 x3 x4 x5 x6 x7 x8;go_wp2_with fail;go_ret;exact ⟨rfl,hbw.trans (hbr1.mono hbw.size)⟩
       ·have h1:inB gg 1 2147483647 = false:=by simpa using h1
        obtain rfl:r = false:=by rw [hr,h0,h1];try rfl
        have hc0:=fun W=>between i 0 999 W;rw [h0] at hc0;have hc1:=fun W=>between gg 1 2147483647 W;rw [h1] at hc1;clear h0 h1 hr;have H0:=Lib.hid hc0;clear hc0;have H1:=Lib.hid hc1;clear hc1;go_wp2_with fail;refine (H0.out _).mono ?_;rintro e w' ⟨rfl,rfl⟩;go_wp2_with fail;refine (H1.out _).mono ?_;rintro e w' ⟨rfl,rfl⟩;go_wp2_with fail;go_ret;exact ⟨rfl,hbw.trans (hbr.mono hbw.size)⟩
      ·have h0:inB i 0 999 = false:=by simpa using h0
       obtain rfl:r = false:=by rw [hr,h0];try rfl
       have hc0:=fun W=>between i 0 999 W;rw [h0] at hc0;clear h0 hr;have H0:=Lib.hid hc0;clear hc0;go_wp2_with fail;refine (H0.out _).mono ?_;rintro e w' ⟨rfl,rfl⟩;go_wp2_with fail;go_ret;exact ⟨rfl,hbw.trans (hbr.mono hbw.size)⟩
     ·have hr:r = (vName nm && (vName fn && inB ar 0 16)):=by rw [HR.out,inB_t (by omega),Bool.true_and];simp [okF]
      clear HR HLast
      by_cases h0:vName nm = true
      ·by_cases h1:vName fn = true
       ·by_cases h2:inB ar 0 16 = true
        ·obtain rfl:r = true:=by rw [hr,h0,h1,h2];try rfl
         have hc0:=fun W=>RName nm W;rw [h0] at hc0;have hc1:=fun W=>RName fn W;rw [h1] at hc1;have hc2:=fun W=>between ar 0 16 W;rw [h2] at hc2;clear h0 h1 h2 hr;have H0:=Lib.hid hc0;clear hc0;have H1:=Lib.hid hc1;clear hc1;have H2:=Lib.hid hc2;clear hc2;go_wp2_with fail;refine (H0.out _).mono ?_;rintro e v1 ⟨rfl,hv1⟩;have hbr1:=hbr.trans (hv1.mono hbr.size);obtain ⟨x0,x1,x2,x3,x4,x5,x6,x7,x8,xz⟩:=HN0.out.below hbr1 (by have:=HSZ.out;omega);dsimp only at x0 x1 x2 x3 x4 x5 x6 x7 x8;go_wp2_with fail;refine (H1.out _).mono ?_;rintro e v2 ⟨rfl,hv2⟩;have hbr2:=hbr1.trans (hv2.mono hbr1.size)
         obtain ⟨x0,x1,x2,x3,x4,x5,x6,x7,x8,xz⟩:=HN0.out.below hbr2 (by have:=HSZ.out;omega);dsimp only at x0 x1 x2 x3 x4 x5 x6 x7 x8;go_wp2_with fail;refine (H2.out _).mono ?_;rintro e w' ⟨rfl,rfl⟩;go_wp2_with fail;go_ret;exact ⟨rfl,hbw.trans (hbr2.mono hbw.size)⟩
        ·have h2:inB ar 0 16 = false:=by simpa using h2
         obtain rfl:r = false:=by rw [hr,h0,h1,h2];try rfl
         have hc0:=fun W=>RName nm W;rw [h0] at hc0;have hc1:=fun W=>RName fn W;rw [h1] at hc1;have hc2:=fun W=>between ar 0 16 W;rw [h2] at hc2;clear h0 h1 h2 hr;have H0:=Lib.hid hc0;clear hc0;have H1:=Lib.hid hc1;clear hc1;have H2:=Lib.hid hc2;clear hc2;go_wp2_with fail;refine (H0.out _).mono ?_;rintro e v1 ⟨rfl,hv1⟩;have hbr1:=hbr.trans (hv1.mono hbr.size);obtain ⟨x0,x1,x2,x3,x4,x5,x6,x7,x8,xz⟩:=HN0.out.below hbr1 (by have:=HSZ.out;omega);dsimp only at x0 x1 x2 x3 x4 x5 x6 x7 x8;go_wp2_with fail;refine (H1.out _).mono ?_;rintro e v2 ⟨rfl,hv2⟩;have hbr2:=hbr1.trans (hv2.mono hbr1.size)
         obtain ⟨x0,x1,x2,x3,x4,x5,x6,x7,x8,xz⟩:=HN0.out.below hbr2 (by have:=HSZ.out;omega);dsimp only at x0 x1 x2 x3 x4 x5 x6 x7 x8;go_wp2_with fail;refine (H2.out _).mono ?_;rintro e w' ⟨rfl,rfl⟩;go_wp2_with fail;go_ret;exact ⟨rfl,hbw.trans (hbr2.mono hbw.size)⟩
       ·have h1:vName fn = false:=by simpa using h1
        obtain rfl:r = false:=by rw [hr,h0,h1];try rfl
        have hc0:=fun W=>RName nm W;rw [h0] at hc0;have hc1:=fun W=>RName fn W;rw [h1] at hc1;clear h0 h1 hr;have H0:=Lib.hid hc0;clear hc0;have H1:=Lib.hid hc1;clear hc1;go_wp2_with fail;refine (H0.out _).mono ?_;rintro e v1 ⟨rfl,hv1⟩;have hbr1:=hbr.trans (hv1.mono hbr.size);obtain ⟨x0,x1,x2,x3,x4,x5,x6,x7,x8,xz⟩:=HN0.out.below hbr1 (by have:=HSZ.out;omega);dsimp only at x0 x1 x2 x3 x4 x5 x6 x7 x8;go_wp2_with fail;refine (H1.out _).mono ?_;rintro e v2 ⟨rfl,hv2⟩;have hbr2:=hbr1.trans (hv2.mono hbr1.size);obtain ⟨x0,x1,x2,x3,x4,x5,x6,x7,x8,xz⟩:=HN0.out.below hbr2 (by have:=HSZ.out;omega)
        dsimp only at x0 x1 x2 x3 x4 x5 x6 x7 x8;go_wp2_with fail;go_ret;exact ⟨rfl,hbw.trans (hbr2.mono hbw.size)⟩
      ·have h0:vName nm = false:=by simpa using h0
       obtain rfl:r = false:=by rw [hr,h0];try rfl
       have hc0:=fun W=>RName nm W;rw [h0] at hc0;clear h0 hr;have H0:=Lib.hid hc0;clear hc0;go_wp2_with fail;refine (H0.out _).mono ?_;rintro e v1 ⟨rfl,hv1⟩;have hbr1:=hbr.trans (hv1.mono hbr.size);obtain ⟨x0,x1,x2,x3,x4,x5,x6,x7,x8,xz⟩:=HN0.out.below hbr1 (by have:=HSZ.out;omega);dsimp only at x0 x1 x2 x3 x4 x5 x6 x7 x8;go_wp2_with fail;go_ret;exact ⟨rfl,hbw.trans (hbr1.mono hbw.size)⟩
     ·have hr:r = (inB i 1 2147483647 && (inB gg 1 2147483647 && vName nm)):=by rw [HR.out,inB_t (by omega),Bool.true_and];simp [okF]
      clear HR HLast
      by_cases h0:inB i 1 2147483647 = true
      ·by_cases h1:inB gg 1 2147483647 = true
       ·by_cases h2:vName nm = true
        ·obtain rfl:r = true:=by rw [hr,h0,h1,h2];try rfl
         have hc0:=fun W=>between i 1 2147483647 W;rw [h0] at hc0;have hc1:=fun W=>between gg 1 2147483647 W;rw [h1] at hc1;have hc2:=fun W=>RName nm W;rw [h2] at hc2;clear h0 h1 h2 hr;have H0:=Lib.hid hc0;clear hc0;have H1:=Lib.hid hc1;clear hc1;have H2:=Lib.hid hc2;clear hc2;go_wp2_with fail;refine (H0.out _).mono ?_;rintro e w' ⟨rfl,rfl⟩;go_wp2_with fail;refine (H1.out _).mono ?_;rintro e w' ⟨rfl,rfl⟩;go_wp2_with fail;refine (H2.out _).mono ?_;rintro e v1 ⟨rfl,hv1⟩;have hbr1:=hbr.trans (hv1.mono hbr.size);obtain ⟨x0,x1,x2,x3,x4,x5,x6,x7,x8,xz⟩:=HN0.out.below hbr1 (by have:=HSZ.out;omega)
         dsimp only at x0 x1 x2 x3 x4 x5 x6 x7 x8;go_wp2_with fail;go_ret;exact ⟨rfl,hbw.trans (hbr1.mono hbw.size)⟩
        ·have h2:vName nm = false:=by simpa using h2
         obtain rfl:r = false:=by rw [hr,h0,h1,h2];try rfl
         have hc0:=fun W=>between i 1 2147483647 W;rw [h0] at hc0;have hc1:=fun W=>between gg 1 2147483647 W;rw [h1] at hc1;have hc2:=fun W=>RName nm W;rw [h2] at hc2;clear h0 h1 h2 hr;have H0:=Lib.hid hc0;clear hc0;have H1:=Lib.hid hc1;clear hc1;have H2:=Lib.hid hc2;clear hc2;go_wp2_with fail;refine (H0.out _).mono ?_;rintro e w' ⟨rfl,rfl⟩;go_wp2_with fail;refine (H1.out _).mono ?_;rintro e w' ⟨rfl,rfl⟩;go_wp2_with fail;refine (H2.out _).mono ?_;rintro e v1 ⟨rfl,hv1⟩;have hbr1:=hbr.trans (hv1.mono hbr.size);obtain ⟨x0,x1,x2,x3,x4,x5,x6,x7,x8,xz⟩:=HN0.out.below hbr1 (by have:=HSZ.out;omega)
         dsimp only at x0 x1 x2 x3 x4 x5 x6 x7 x8;go_wp2_with fail;go_ret;exact ⟨rfl,hbw.trans (hbr1.mono hbw.size)⟩
       ·have h1:inB gg 1 2147483647 = false:=by simpa using h1
        obtain rfl:r = false:=by rw [hr,h0,h1];try rfl
        have hc0:=fun W=>between i 1 2147483647 W;rw [h0] at hc0;have hc1:=fun W=>between gg 1 2147483647 W;rw [h1] at hc1;clear h0 h1 hr;have H0:=Lib.hid hc0;clear hc0;have H1:=Lib.hid hc1;clear hc1;go_wp2_with fail;refine (H0.out _).mono ?_;rintro e w' ⟨rfl,rfl⟩;go_wp2_with fail;refine (H1.out _).mono ?_;rintro e w' ⟨rfl,rfl⟩;go_wp2_with fail;go_ret;exact ⟨rfl,hbw.trans (hbr.mono hbw.size)⟩
      ·have h0:inB i 1 2147483647 = false:=by simpa using h0
       obtain rfl:r = false:=by rw [hr,h0];try rfl
       have hc0:=fun W=>between i 1 2147483647 W;rw [h0] at hc0;clear h0 hr;have H0:=Lib.hid hc0;clear hc0;go_wp2_with fail;refine (H0.out _).mono ?_;rintro e w' ⟨rfl,rfl⟩;go_wp2_with fail;go_ret;exact ⟨rfl,hbw.trans (hbr.mono hbw.size)⟩
     ·have hr:r = decide (len ≤ 255):=by rw [HR.out,inB_t (by omega),Bool.true_and];simp [okF]
      clear HR HLast
      by_cases h0:decide (len ≤ 255) = true
      ·obtain rfl:r = true:=by rw [hr,h0];try rfl
       have d0:decide ((len:Int) ≤ 255) = true:=by have:=of_decide_eq_true h0;exact decide_eq_true (by omega)
       clear h0 hr;go_wp2_with fail;go_ret;exact ⟨rfl,hbw.trans (hbr.mono hbw.size)⟩
      ·have h0:decide (len ≤ 255) = false:=by simpa using h0
       obtain rfl:r = false:=by rw [hr,h0];try rfl
       have d0:decide ((len:Int) ≤ 255) = false:=by have:=of_decide_eq_false h0;exact decide_eq_false (by omega)
       clear h0 hr;go_wp2_with fail;go_ret;exact ⟨rfl,hbw.trans (hbr.mono hbw.size)⟩
     ·have hr:r = true:=by rw [HR.out,inB_t (by omega),Bool.true_and];simp [okF]
      clear HR HLast;obtain rfl:r = true:=hr;go_wp2_with fail;go_ret;exact ⟨rfl,hbw.trans (hbr.mono hbw.size)⟩
     ·have hr:r = (decide (2 ≤ len) && decide (last ≠ 9)):=by rw [HR.out,inB_t (by omega),Bool.true_and];simp [okF]
      clear HR
      by_cases h0:2 ≤ len
      ·obtain ⟨g0,o0,rfl,hcell,hg0⟩:=HLast.out h0;obtain ⟨m,rfl⟩:∃ m,len = m + 2:=⟨len - 2,by omega⟩;rw [show m + 2 - 1 = m + 1 by omega] at hcell;have hcell:=(hbx.cell (p:=⟨g0,o0 + (m + 1) * 9,none⟩) (by simp;omega)).trans hcell;rw [decide_eq_true h0,Bool.true_and] at hr;clear HLast
       by_cases h1:last ≠ 9
       ·obtain rfl:r = true:=by rw [hr,decide_eq_true h1]
        have hq:(last != 9) = true:=by simpa using h1
        clear hr h1 h0;go_wp2_with fail;go_ret;exact ⟨rfl,hbw.trans (hbr.mono hbw.size)⟩
       ·obtain rfl:r = false:=by rw [hr,decide_eq_false h1]
        have hq:(last != 9) = false:=by simpa using h1
        clear hr h1 h0;go_wp2_with fail;go_ret;exact ⟨rfl,hbw.trans (hbr.mono hbw.size)⟩
      ·obtain rfl:r = false:=by rw [hr,decide_eq_false h0];rfl
       have hq:decide (2 ≤ (len:Int)) = false:=decide_eq_false (by omega);clear hr h0 HLast;go_wp2_with fail;go_ret;exact ⟨rfl,hbw.trans (hbr.mono hbw.size)⟩
     ·have hr:r = okBits ⟨10,i,gg,nm,fn,ar,by_,bt⟩:=by rw [HR.out,inB_t (by omega),Bool.true_and];simp [okF]
      clear HR HLast
      by_cases h0:okBits ⟨10,i,gg,nm,fn,ar,by_,bt⟩ = true
      ·obtain rfl:r = true:=by rw [hr,h0];try rfl
       have hc0:=fun W=>bitsT 10 i gg nm fn ar by_ bt p len c W;rw [h0] at hc0;unfold aggV BPost at hc0;clear h0 hr;have H0:=Lib.hid hc0;clear hc0;go_wp2_with fail;refine (H0.out _).mono ?_;rintro e v1 ⟨rfl,hv1⟩;have hbr1:=hbr.trans (hv1.mono hbr.size);obtain ⟨x0,x1,x2,x3,x4,x5,x6,x7,x8,xz⟩:=HN0.out.below hbr1 (by have:=HSZ.out;omega);dsimp only at x0 x1 x2 x3 x4 x5 x6 x7 x8;go_wp2_with fail;go_ret;exact ⟨rfl,hbw.trans (hbr1.mono hbw.size)⟩
      ·have h0:okBits ⟨10,i,gg,nm,fn,ar,by_,bt⟩ = false:=by simpa using h0
       obtain rfl:r = false:=by rw [hr,h0];try rfl
       have hc0:=fun W=>bitsT 10 i gg nm fn ar by_ bt p len c W;rw [h0] at hc0;unfold aggV BPost at hc0;clear h0 hr;have H0:=Lib.hid hc0;clear hc0;go_wp2_with fail;refine (H0.out _).mono ?_;rintro e v1 ⟨rfl,hv1⟩;have hbr1:=hbr.trans (hv1.mono hbr.size);obtain ⟨x0,x1,x2,x3,x4,x5,x6,x7,x8,xz⟩:=HN0.out.below hbr1 (by have:=HSZ.out;omega);dsimp only at x0 x1 x2 x3 x4 x5 x6 x7 x8;go_wp2_with fail;go_ret;exact ⟨rfl,hbw.trans (hbr1.mono hbw.size)⟩
    ·have hr:r = false:=by rw [HR.out,inB_k ways _ rfl,Bool.and_false]
     subst hr;have q1:(k == 1) = false:=by simp;omega
     have q2:(k == 2) = false:=by simp;omega
     have q3:(k == 3) = false:=by simp;omega
     have q4:(k == 4) = false:=by simp;omega
     have q5:(k == 5) = false:=by simp;omega
     have q6:(k == 6) = false:=by simp;omega
     have q7:(k == 7) = false:=by simp;omega
     have q8:(k == 8) = false:=by simp;omega
     have q9:(k == 9) = false:=by simp;omega
     have q10:(k == 10) = false:=by simp;omega
     clear ways HR HLast;go_wp2_with fail;go_ret;exact ⟨rfl,hbw.trans (hbr.mono hbw.size)⟩
 ·have hz:zb = false:=by simpa using hz
  subst hz;obtain rfl:r = false:=by rw [HF.out,Bool.and_false,Bool.and_false,Bool.false_and]
  go_wp2_with fail;go_ret;exact ⟨rfl,hbw.trans (hb.mono hbw.size)⟩
theorem refAll:∀ n,RefS n
 | 0=>refStep (fun m h=>by omega)
 | n + 1=>refStep (fun m h=>by
  obtain rfl:n = m:=by omega
  exact refAll n)
end Go.Proofs.YtpnlnbolhkcnjaaGreat.tm
