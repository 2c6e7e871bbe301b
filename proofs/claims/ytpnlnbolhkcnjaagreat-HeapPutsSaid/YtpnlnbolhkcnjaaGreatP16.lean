/- TmO,TmP. No condition beyond theirs. -/
import Derived.Test.YtpnlnbolhkcnjaaGreatP10
set_option linter.unusedSimpArgs false
set_option linter.unusedVariables false
set_option maxHeartbeats 4000000
set_option maxRecDepth 100000
namespace Go.Proofs.YtpnlnbolhkcnjaaGreat.tm
open Go.RowKit mem names
theorem RName (s:ByteArray) (w:World) :
 Calls Tryz.prog 199 #[.string s] w fun e w'=>e = .returned (.bool (vName s))∧Below w.heap.size w w':=by
 by_cases h1:s.size < 1
 ·go_enter Tryz.func199,Tryz.ntmps199;go_wp2_with fail;go_ret;exact ⟨tm.ret1b (by unfold vName;symm;rw [decide_eq_false_iff_not];omega),Below.refl _ _⟩
 by_cases h2:32 < s.size
 ·go_enter Tryz.func199,Tryz.ntmps199;go_wp2_with fail;go_ret;exact ⟨tm.ret1b (by unfold vName;symm;rw [decide_eq_false_iff_not];omega),Below.refl _ _⟩
 have h0:0 < s.size:=by omega
 have F:(Hid (97 ≤ (s[0].toNat:Int)∧(s[0].toNat:Int) ≤ 122→okAt 0 s[0].toNat = true)):=Lib.hid fun h=>(okAt_iff _ _).2 (by omega)
 by_cases h3:(s[0].toNat:Int) < 97
 ·go_enter Tryz.func199,Tryz.ntmps199;go_wp2_with fail;go_ret;exact ⟨tm.ret1b (vName_false 0 h0 (okAt_not _ _ (by omega))).symm,Below.refl _ _⟩
 by_cases h4:(122:Int) < s[0].toNat
 ·go_enter Tryz.func199,Tryz.ntmps199;go_wp2_with fail;go_ret;exact ⟨tm.ret1b (vName_false 0 h0 (okAt_not _ _ (by omega))).symm,Below.refl _ _⟩
 have hin:∀ k:Nat,(h:k < s.size)→k < 1→okAt k (s[k]'h).toNat = true:=by
  intro k h hk;have e:k = 0:=by omega
  subst e;exact F.out (by omega)
 have HIN:=Lib.hid hin;clear hin;go_enter Tryz.func199,Tryz.ntmps199;go_wp2_with fail;go_loop [3] (fun i=>∃ pos:Nat,i = .int .i64 pos∧1 ≤ pos∧pos ≤ s.size∧Hid (∀ k:Nat,(h:k < s.size)→k < pos→okAt k (s[k]'h).toNat = true)) (fun i=>s.size - (intOf i).toNat)
 case atStart=>exact ⟨1,rfl,by omega,by omega,HIN⟩
 case round =>
  obtain ⟨pos,rfl,hpos1,hpos,HALL⟩:=hrel
  by_cases hp:pos < s.size
  ·have HN:Hid (pos = 0→97 ≤ (s[pos].toNat:Int)∧(s[pos].toNat:Int) ≤ 122):=Lib.hid (by intro e;omega);obtain ⟨lo,hi,b1,b2,c1,c2,c3,c4,c5,c6,hG⟩:=classes s[pos].toNat (by have:=s[pos].toNat_lt;omega);rcases hG with ⟨rfl,rfl,rfl,rfl⟩ | ⟨rfl,rfl,rfl,rfl⟩ | ⟨rfl,rfl,rfl,rfl⟩ | ⟨rfl,rfl,rfl,rfl⟩ | ⟨rfl,rfl,rfl,rfl⟩ | ⟨rfl,rfl,rfl,rfl⟩ | ⟨rfl,rfl,rfl,rfl⟩ | ⟨rfl,rfl,rfl,rfl⟩ | ⟨rfl,rfl,rfl,rfl⟩ | ⟨rfl,rfl,rfl,rfl⟩
   all_goals go_wp2
   all_goals first
    | (go_ret
       exact ⟨tm.ret1b (vName_false pos hp (okAt_not _ _ (by omega))).symm,Below.refl _ _⟩)
    | (go_round
       case rel =>
        refine ⟨pos + 1,by go_num,by omega,by omega,Lib.hid fun k h hk=>?_⟩
        by_cases hkp:k < pos
        ·exact HALL.out k h hkp
        ·obtain rfl:k = pos:=by omega
         have hn:=HN.out
         exact (okAt_iff _ _).2 (by omega)
       case measure=>simp [intOf];omega)
    | (exfalso;simp only [Bool.not_eq_eq_eq_not,Bool.not_false,Bool.not_true,decide_eq_true_eq,decide_eq_false_iff_not] at *;omega)
  ·go_wp2
   go_ret;exact ⟨tm.ret1b (vName_true (by omega) (by omega) (fun k h=>HALL.out k h (by omega))).symm,Below.refl _ _⟩
theorem between (n a b:Int) (w:World):Calls Tryz.prog 200 #[.int .i64 n,.int .i64 a,.int .i64 b] w fun e w'=>e = .returned (.bool (inB n a b))∧w = w':=by
 by_cases h1:a ≤ n
 ·by_cases h2:n ≤ b
  ·rw [inB_t ⟨h1,h2⟩];have q1:decide (a ≤ n) = true:=decide_eq_true h1;have q2:decide (n ≤ b) = true:=decide_eq_true h2;go_enter Tryz.func200,Tryz.ntmps200;go_wp2_with fail;go_ret;exact ⟨rfl,rfl⟩
  ·rw [inB_f (fun h=>h2 h.2)];have q1:decide (a ≤ n) = true:=decide_eq_true h1;have q2:decide (n ≤ b) = false:=decide_eq_false h2;go_enter Tryz.func200,Tryz.ntmps200;go_wp2_with fail;go_ret;exact ⟨rfl,rfl⟩
 ·rw [inB_f (fun h=>h1 h.1)];have q1:decide (a ≤ n) = false:=decide_eq_false h1;go_enter Tryz.func200,Tryz.ntmps200;go_wp2_with fail;go_ret;exact ⟨rfl,rfl⟩
theorem bare1 (i g:Int) (nm fn:ByteArray) (ar:Int) (by_:ByteArray) (bt:Int) (p:Option Addr) (n c:Nat) (w:World) :
 Calls Tryz.prog 198 #[aggV ⟨1,i,g,nm,fn,ar,by_,bt⟩ (.slice p n c)] w fun e w'=>e = .returned (aggV { bareF ⟨1,i,g,nm,fn,ar,by_,bt⟩ with kind:=0 } (bareV ⟨1,i,g,nm,fn,ar,by_,bt⟩ (.slice p n c)))∧Below w.heap.size w w':=by
 have hb:{ bareF ⟨1,i,g,nm,fn,ar,by_,bt⟩ with kind:=0 } = (⟨0,0,g,nm,fn,ar,by_,bt⟩:TF):=by simp [bareF]
 have hv:bareV ⟨1,i,g,nm,fn,ar,by_,bt⟩ (.slice p n c) = (Value.slice p n c):=by simp [bareV,nilV]
 rw [hb,hv];unfold aggV;dsimp only;clear hb hv;go_enter Tryz.func198,Tryz.ntmps198;go_wp2_with fail;exact bodyPost_ret (v:=(.agg #[.int .i64 0,.int .i64 0,.int .i64 g,.string nm,.string fn,.int .i64 ar,(Value.slice p n c),.string by_,.int .i64 bt])) (by simp [results,Tryz.results198,go_sem, *]) rfl ⟨rfl,by (repeat' (first | with_reducible exact Below.refl _ _ | with_reducible exact Nat.le_refl _ | with_reducible refine Below.setCell ?_ ?_ _ | with_reducible refine Below.alloc ?_ ?_ _ | (simp;done) | (simp;omega)))⟩
theorem bare2 (i g:Int) (nm fn:ByteArray) (ar:Int) (by_:ByteArray) (bt:Int) (p:Option Addr) (n c:Nat) (w:World) :
 Calls Tryz.prog 198 #[aggV ⟨2,i,g,nm,fn,ar,by_,bt⟩ (.slice p n c)] w fun e w'=>e = .returned (aggV { bareF ⟨2,i,g,nm,fn,ar,by_,bt⟩ with kind:=0 } (bareV ⟨2,i,g,nm,fn,ar,by_,bt⟩ (.slice p n c)))∧Below w.heap.size w w':=by
 have hb:{ bareF ⟨2,i,g,nm,fn,ar,by_,bt⟩ with kind:=0 } = (⟨0,i,g,⟨#[]⟩,fn,ar,by_,bt⟩:TF):=by simp [bareF]
 have hv:bareV ⟨2,i,g,nm,fn,ar,by_,bt⟩ (.slice p n c) = (Value.slice p n c):=by simp [bareV,nilV]
 rw [hb,hv];unfold aggV;dsimp only;clear hb hv;go_enter Tryz.func198,Tryz.ntmps198;go_wp2_with fail;exact bodyPost_ret (v:=(.agg #[.int .i64 0,.int .i64 i,.int .i64 g,.string ⟨#[]⟩,.string fn,.int .i64 ar,(Value.slice p n c),.string by_,.int .i64 bt])) (by simp [results,Tryz.results198,go_sem, *]) rfl ⟨rfl,by (repeat' (first | with_reducible exact Below.refl _ _ | with_reducible exact Nat.le_refl _ | with_reducible refine Below.setCell ?_ ?_ _ | with_reducible refine Below.alloc ?_ ?_ _ | (simp;done) | (simp;omega)))⟩
theorem bare3 (i g:Int) (nm fn:ByteArray) (ar:Int) (by_:ByteArray) (bt:Int) (p:Option Addr) (n c:Nat) (w:World) :
 Calls Tryz.prog 198 #[aggV ⟨3,i,g,nm,fn,ar,by_,bt⟩ (.slice p n c)] w fun e w'=>e = .returned (aggV { bareF ⟨3,i,g,nm,fn,ar,by_,bt⟩ with kind:=0 } (bareV ⟨3,i,g,nm,fn,ar,by_,bt⟩ (.slice p n c)))∧Below w.heap.size w w':=by
 have hb:{ bareF ⟨3,i,g,nm,fn,ar,by_,bt⟩ with kind:=0 } = (⟨0,0,0,⟨#[]⟩,fn,ar,by_,bt⟩:TF):=by simp [bareF]
 have hv:bareV ⟨3,i,g,nm,fn,ar,by_,bt⟩ (.slice p n c) = (Value.slice p n c):=by simp [bareV,nilV]
 rw [hb,hv];unfold aggV;dsimp only;clear hb hv;go_enter Tryz.func198,Tryz.ntmps198;go_wp2_with fail;exact bodyPost_ret (v:=(.agg #[.int .i64 0,.int .i64 0,.int .i64 0,.string ⟨#[]⟩,.string fn,.int .i64 ar,(Value.slice p n c),.string by_,.int .i64 bt])) (by simp [results,Tryz.results198,go_sem, *]) rfl ⟨rfl,by (repeat' (first | with_reducible exact Below.refl _ _ | with_reducible exact Nat.le_refl _ | with_reducible refine Below.setCell ?_ ?_ _ | with_reducible refine Below.alloc ?_ ?_ _ | (simp;done) | (simp;omega)))⟩
theorem bare4 (i g:Int) (nm fn:ByteArray) (ar:Int) (by_:ByteArray) (bt:Int) (p:Option Addr) (n c:Nat) (w:World) :
 Calls Tryz.prog 198 #[aggV ⟨4,i,g,nm,fn,ar,by_,bt⟩ (.slice p n c)] w fun e w'=>e = .returned (aggV { bareF ⟨4,i,g,nm,fn,ar,by_,bt⟩ with kind:=0 } (bareV ⟨4,i,g,nm,fn,ar,by_,bt⟩ (.slice p n c)))∧Below w.heap.size w w':=by
 have hb:{ bareF ⟨4,i,g,nm,fn,ar,by_,bt⟩ with kind:=0 } = (⟨0,0,0,⟨#[]⟩,fn,0,by_,bt⟩:TF):=by simp [bareF]
 have hv:bareV ⟨4,i,g,nm,fn,ar,by_,bt⟩ (.slice p n c) = (Value.slice none 0 0):=by simp [bareV,nilV]
 rw [hb,hv];unfold aggV;dsimp only;clear hb hv;go_enter Tryz.func198,Tryz.ntmps198;go_wp2_with fail;exact bodyPost_ret (v:=(.agg #[.int .i64 0,.int .i64 0,.int .i64 0,.string ⟨#[]⟩,.string fn,.int .i64 0,(Value.slice none 0 0),.string by_,.int .i64 bt])) (by simp [results,Tryz.results198,go_sem, *]) rfl ⟨rfl,by (repeat' (first | with_reducible exact Below.refl _ _ | with_reducible exact Nat.le_refl _ | with_reducible refine Below.setCell ?_ ?_ _ | with_reducible refine Below.alloc ?_ ?_ _ | (simp;done) | (simp;omega)))⟩
theorem bare5 (i g:Int) (nm fn:ByteArray) (ar:Int) (by_:ByteArray) (bt:Int) (p:Option Addr) (n c:Nat) (w:World) :
 Calls Tryz.prog 198 #[aggV ⟨5,i,g,nm,fn,ar,by_,bt⟩ (.slice p n c)] w fun e w'=>e = .returned (aggV { bareF ⟨5,i,g,nm,fn,ar,by_,bt⟩ with kind:=0 } (bareV ⟨5,i,g,nm,fn,ar,by_,bt⟩ (.slice p n c)))∧Below w.heap.size w w':=by
 have hb:{ bareF ⟨5,i,g,nm,fn,ar,by_,bt⟩ with kind:=0 } = (⟨0,i,g,⟨#[]⟩,⟨#[]⟩,0,by_,bt⟩:TF):=by simp [bareF]
 have hv:bareV ⟨5,i,g,nm,fn,ar,by_,bt⟩ (.slice p n c) = (Value.slice p n c):=by simp [bareV,nilV]
 rw [hb,hv];unfold aggV;dsimp only;clear hb hv;go_enter Tryz.func198,Tryz.ntmps198;go_wp2_with fail;exact bodyPost_ret (v:=(.agg #[.int .i64 0,.int .i64 i,.int .i64 g,.string ⟨#[]⟩,.string ⟨#[]⟩,.int .i64 0,(Value.slice p n c),.string by_,.int .i64 bt])) (by simp [results,Tryz.results198,go_sem, *]) rfl ⟨rfl,by (repeat' (first | with_reducible exact Below.refl _ _ | with_reducible exact Nat.le_refl _ | with_reducible refine Below.setCell ?_ ?_ _ | with_reducible refine Below.alloc ?_ ?_ _ | (simp;done) | (simp;omega)))⟩
theorem bare6 (i g:Int) (nm fn:ByteArray) (ar:Int) (by_:ByteArray) (bt:Int) (p:Option Addr) (n c:Nat) (w:World) :
 Calls Tryz.prog 198 #[aggV ⟨6,i,g,nm,fn,ar,by_,bt⟩ (.slice p n c)] w fun e w'=>e = .returned (aggV { bareF ⟨6,i,g,nm,fn,ar,by_,bt⟩ with kind:=0 } (bareV ⟨6,i,g,nm,fn,ar,by_,bt⟩ (.slice p n c)))∧Below w.heap.size w w':=by
 have hb:{ bareF ⟨6,i,g,nm,fn,ar,by_,bt⟩ with kind:=0 } = (⟨0,0,0,⟨#[]⟩,fn,ar,by_,bt⟩:TF):=by simp [bareF]
 have hv:bareV ⟨6,i,g,nm,fn,ar,by_,bt⟩ (.slice p n c) = (Value.slice p n c):=by simp [bareV,nilV]
 rw [hb,hv];unfold aggV;dsimp only;clear hb hv;go_enter Tryz.func198,Tryz.ntmps198;go_wp2_with fail;exact bodyPost_ret (v:=(.agg #[.int .i64 0,.int .i64 0,.int .i64 0,.string ⟨#[]⟩,.string fn,.int .i64 ar,(Value.slice p n c),.string by_,.int .i64 bt])) (by simp [results,Tryz.results198,go_sem, *]) rfl ⟨rfl,by (repeat' (first | with_reducible exact Below.refl _ _ | with_reducible exact Nat.le_refl _ | with_reducible refine Below.setCell ?_ ?_ _ | with_reducible refine Below.alloc ?_ ?_ _ | (simp;done) | (simp;omega)))⟩
theorem bare7 (i g:Int) (nm fn:ByteArray) (ar:Int) (by_:ByteArray) (bt:Int) (p:Option Addr) (n c:Nat) (w:World) :
 Calls Tryz.prog 198 #[aggV ⟨7,i,g,nm,fn,ar,by_,bt⟩ (.slice p n c)] w fun e w'=>e = .returned (aggV { bareF ⟨7,i,g,nm,fn,ar,by_,bt⟩ with kind:=0 } (bareV ⟨7,i,g,nm,fn,ar,by_,bt⟩ (.slice p n c)))∧Below w.heap.size w w':=by
 have hb:{ bareF ⟨7,i,g,nm,fn,ar,by_,bt⟩ with kind:=0 } = (⟨0,i,g,nm,fn,ar,by_,bt⟩:TF):=by simp [bareF]
 have hv:bareV ⟨7,i,g,nm,fn,ar,by_,bt⟩ (.slice p n c) = (Value.slice none 0 0):=by simp [bareV,nilV]
 rw [hb,hv];unfold aggV;dsimp only;clear hb hv;go_enter Tryz.func198,Tryz.ntmps198;go_wp2_with fail;exact bodyPost_ret (v:=(.agg #[.int .i64 0,.int .i64 i,.int .i64 g,.string nm,.string fn,.int .i64 ar,(Value.slice none 0 0),.string by_,.int .i64 bt])) (by simp [results,Tryz.results198,go_sem, *]) rfl ⟨rfl,by (repeat' (first | with_reducible exact Below.refl _ _ | with_reducible exact Nat.le_refl _ | with_reducible refine Below.setCell ?_ ?_ _ | with_reducible refine Below.alloc ?_ ?_ _ | (simp;done) | (simp;omega)))⟩
theorem bareE (k i g:Int) (nm fn:ByteArray) (ar:Int) (by_:ByteArray) (bt:Int) (p:Option Addr) (n c:Nat) (hk:k ≠ 1∧k ≠ 2∧k ≠ 3∧k ≠ 4∧k ≠ 5∧k ≠ 6∧k ≠ 7∧k ≠ 9∧k ≠ 10) (w:World) :
 Calls Tryz.prog 198 #[aggV ⟨k,i,g,nm,fn,ar,by_,bt⟩ (.slice p n c)] w fun e w'=>e = .returned (aggV { bareF ⟨k,i,g,nm,fn,ar,by_,bt⟩ with kind:=0 } (bareV ⟨k,i,g,nm,fn,ar,by_,bt⟩ (.slice p n c)))∧Below w.heap.size w w':=by
 have hb:{ bareF ⟨k,i,g,nm,fn,ar,by_,bt⟩ with kind:=0 } = (⟨0,i,g,nm,fn,ar,by_,bt⟩:TF):=by simp [bareF,hk]
 have hv:bareV ⟨k,i,g,nm,fn,ar,by_,bt⟩ (.slice p n c) = (Value.slice p n c):=by simp [bareV,nilV,hk]
 rw [hb,hv];unfold aggV;dsimp only;clear hb hv;have q1:(k == 1) = false:=by simp;omega
 have q2:(k == 2) = false:=by simp;omega
 have q3:(k == 3) = false:=by simp;omega
 have q4:(k == 4) = false:=by simp;omega
 have q5:(k == 5) = false:=by simp;omega
 have q6:(k == 6) = false:=by simp;omega
 have q7:(k == 7) = false:=by simp;omega
 have q9:(k == 9) = false:=by simp;omega
 have q10:(k == 10) = false:=by simp;omega
 clear hk;go_enter Tryz.func198,Tryz.ntmps198;go_wp2_with fail;exact bodyPost_ret (v:=(.agg #[.int .i64 0,.int .i64 i,.int .i64 g,.string nm,.string fn,.int .i64 ar,(Value.slice p n c),.string by_,.int .i64 bt])) (by simp [results,Tryz.results198,go_sem, *]) rfl ⟨rfl,by (repeat' (first | with_reducible exact Below.refl _ _ | with_reducible exact Nat.le_refl _ | with_reducible refine Below.setCell ?_ ?_ _ | with_reducible refine Below.alloc ?_ ?_ _ | (simp;done) | (simp;omega)))⟩
theorem bare9 (i g:Int) (nm fn:ByteArray) (ar:Int) (by_:ByteArray) (bt:Int) (p:Option Addr) (n c:Nat) (w:World) :
 Calls Tryz.prog 198 #[aggV ⟨9,i,g,nm,fn,ar,by_,bt⟩ (.slice p n c)] w fun e w'=>e = .returned (aggV { bareF ⟨9,i,g,nm,fn,ar,by_,bt⟩ with kind:=0 } (bareV ⟨9,i,g,nm,fn,ar,by_,bt⟩ (.slice p n c)))∧Below w.heap.size w w':=by
 have hb:{ bareF ⟨9,i,g,nm,fn,ar,by_,bt⟩ with kind:=0 } = (⟨0,i,g,nm,fn,ar,by_,bt⟩:TF):=by simp [bareF]
 have hv:bareV ⟨9,i,g,nm,fn,ar,by_,bt⟩ (.slice p n c) = (Value.slice none 0 0):=by simp [bareV,nilV]
 rw [hb,hv];unfold aggV;dsimp only;clear hb hv;go_enter Tryz.func198,Tryz.ntmps198;go_wp2_with fail;exact bodyPost_ret (v:=(.agg #[.int .i64 0,.int .i64 i,.int .i64 g,.string nm,.string fn,.int .i64 ar,(Value.slice none 0 0),.string by_,.int .i64 bt])) (by simp [results,Tryz.results198,go_sem, *]) rfl ⟨rfl,by (repeat' (first | with_reducible exact Below.refl _ _ | with_reducible exact Nat.le_refl _ | with_reducible refine Below.setCell ?_ ?_ _ | with_reducible refine Below.alloc ?_ ?_ _ | (simp;done) | (simp;omega)))⟩
theorem bare10 (i g:Int) (nm fn:ByteArray) (ar:Int) (by_:ByteArray) (bt:Int) (p:Option Addr) (n c:Nat) (w:World) :
 Calls Tryz.prog 198 #[aggV ⟨10,i,g,nm,fn,ar,by_,bt⟩ (.slice p n c)] w fun e w'=>e = .returned (aggV { bareF ⟨10,i,g,nm,fn,ar,by_,bt⟩ with kind:=0 } (bareV ⟨10,i,g,nm,fn,ar,by_,bt⟩ (.slice p n c)))∧Below w.heap.size w w':=by
 have hb:{ bareF ⟨10,i,g,nm,fn,ar,by_,bt⟩ with kind:=0 } = (⟨0,i,g,nm,fn,ar,⟨#[]⟩,0⟩:TF):=by simp [bareF]
 have hv:bareV ⟨10,i,g,nm,fn,ar,by_,bt⟩ (.slice p n c) = (Value.slice p n c):=by simp [bareV,nilV]
 rw [hb,hv];unfold aggV;dsimp only;clear hb hv;go_enter Tryz.func198,Tryz.ntmps198;go_wp2_with fail;exact bodyPost_ret (v:=(.agg #[.int .i64 0,.int .i64 i,.int .i64 g,.string nm,.string fn,.int .i64 ar,(Value.slice p n c),.string ⟨#[]⟩,.int .i64 0])) (by simp [results,Tryz.results198,go_sem, *]) rfl ⟨rfl,by (repeat' (first | with_reducible exact Below.refl _ _ | with_reducible exact Nat.le_refl _ | with_reducible refine Below.setCell ?_ ?_ _ | with_reducible refine Below.alloc ?_ ?_ _ | (simp;done) | (simp;omega)))⟩
theorem bare (f:TF) (p:Option Addr) (n c:Nat) (w:World) :
 Calls Tryz.prog 198 #[aggV f (.slice p n c)] w fun e w'=>e = .returned (aggV { bareF f with kind:=0 } (bareV f (.slice p n c)))∧Below w.heap.size w w':=by
 obtain ⟨k,i,g,nm,fn,ar,by_,bt⟩:=f
 by_cases h:k ≠ 1∧k ≠ 2∧k ≠ 3∧k ≠ 4∧k ≠ 5∧k ≠ 6∧k ≠ 7∧k ≠ 9∧k ≠ 10
 ·exact bareE k i g nm fn ar by_ bt p n c h w
 ·have ways:k = 1∨k = 2∨k = 3∨k = 4∨k = 5∨k = 6∨k = 7∨k = 9∨k = 10:=by omega
  rcases ways with rfl | rfl | rfl | rfl | rfl | rfl | rfl | rfl | rfl
  ·exact bare1 i g nm fn ar by_ bt p n c w
  ·exact bare2 i g nm fn ar by_ bt p n c w
  ·exact bare3 i g nm fn ar by_ bt p n c w
  ·exact bare4 i g nm fn ar by_ bt p n c w
  ·exact bare5 i g nm fn ar by_ bt p n c w
  ·exact bare6 i g nm fn ar by_ bt p n c w
  ·exact bare7 i g nm fn ar by_ bt p n c w
  ·exact bare9 i g nm fn ar by_ bt p n c w
  ·exact bare10 i g nm fn ar by_ bt p n c w
theorem zeroT (f:TF) (p:Option Addr) (n c:Nat) (w:World):Calls Tryz.prog 197 #[aggV f (.slice p n c)] w (BPost (eqB f zeroF && decide (n = 0)) w):=by
 obtain ⟨k,i,g,nm,fn,ar,by_,bt⟩:=f;have hno:¬ ((k = 0∧i = 0∧g = 0∧nm = ⟨#[]⟩∧fn = ⟨#[]⟩∧ar = 0∧by_ = ⟨#[]⟩∧bt = 0)∧n = 0)→(eqB (⟨k,i,g,nm,fn,ar,by_,bt⟩:TF) zeroF && decide (n = 0)) = false:=fun h=>by
  by_cases hn:n = 0
  ·rw [eqB_f (fun e=>h ⟨(eq_zeroF _ _ _ _ _ _ _ _).1 e,hn⟩)];rfl
  ·rw [decide_eq_false hn,Bool.and_false]
 have hyes:(k = 0∧i = 0∧g = 0∧nm = ⟨#[]⟩∧fn = ⟨#[]⟩∧ar = 0∧by_ = ⟨#[]⟩∧bt = 0)→n = 0→(eqB (⟨k,i,g,nm,fn,ar,by_,bt⟩:TF) zeroF && decide (n = 0)) = true:=fun h hn=>by
  rw [eqB_t ((eq_zeroF _ _ _ _ _ _ _ _).2 h),decide_eq_true hn];rfl
 unfold aggV zeroF at *;dsimp only at *;generalize (eqB (⟨k,i,g,nm,fn,ar,by_,bt⟩:TF) (⟨0,0,0,⟨#[]⟩,⟨#[]⟩,0,⟨#[]⟩,0⟩:TF) && decide (n = 0)) = r at *
 by_cases e:k ≠ 0
 ·obtain rfl:r = false:=hno (by simp_all);have hq:(k == 0) = false:=by simp [e]
  clear hno hyes e;go_enter Tryz.func197,Tryz.ntmps197;go_wp2_with fail;go_ret;exact ⟨rfl,(Below.refl _ _).alloc (Nat.le_refl _) _⟩
 have e:=Classical.not_not.1 e;subst e
 by_cases e:i ≠ 0
 ·obtain rfl:r = false:=hno (by simp_all);have hq:(i == 0) = false:=by simp [e]
  clear hno hyes e;go_enter Tryz.func197,Tryz.ntmps197;go_wp2_with fail;go_ret;exact ⟨rfl,(Below.refl _ _).alloc (Nat.le_refl _) _⟩
 have e:=Classical.not_not.1 e;subst e
 by_cases e:g ≠ 0
 ·obtain rfl:r = false:=hno (by simp_all);have hq:(g == 0) = false:=by simp [e]
  clear hno hyes e;go_enter Tryz.func197,Tryz.ntmps197;go_wp2_with fail;go_ret;exact ⟨rfl,(Below.refl _ _).alloc (Nat.le_refl _) _⟩
 have e:=Classical.not_not.1 e;subst e
 by_cases e:nm ≠ (⟨#[]⟩:ByteArray)
 ·obtain rfl:r = false:=hno (by simp_all);have hq:nm.toList.isEmpty = false:=str_nz e;have hq3:(nm.toList == []) = false:=str_nz2 e;have hq2:¬ nm.toList = []:=str_nz' e;clear hno hyes e;go_enter Tryz.func197,Tryz.ntmps197;go_wp2_with fail;go_ret;exact ⟨rfl,(Below.refl _ _).alloc (Nat.le_refl _) _⟩
 have e:=Classical.not_not.1 e;subst e
 by_cases e:fn ≠ (⟨#[]⟩:ByteArray)
 ·obtain rfl:r = false:=hno (by simp_all);have hq:fn.toList.isEmpty = false:=str_nz e;have hq3:(fn.toList == []) = false:=str_nz2 e;have hq2:¬ fn.toList = []:=str_nz' e;clear hno hyes e;go_enter Tryz.func197,Tryz.ntmps197;go_wp2_with fail;go_ret;exact ⟨rfl,(Below.refl _ _).alloc (Nat.le_refl _) _⟩
 have e:=Classical.not_not.1 e;subst e
 by_cases e:ar ≠ 0
 ·obtain rfl:r = false:=hno (by simp_all);have hq:(ar == 0) = false:=by simp [e]
  clear hno hyes e;go_enter Tryz.func197,Tryz.ntmps197;go_wp2_with fail;go_ret;exact ⟨rfl,(Below.refl _ _).alloc (Nat.le_refl _) _⟩
 have e:=Classical.not_not.1 e;subst e
 by_cases e:n ≠ 0
 ·obtain rfl:r = false:=hno (by simp_all);have hq:(((n:Nat):Int) == 0) = false:=by simp;omega
  clear hno hyes e;go_enter Tryz.func197,Tryz.ntmps197;go_wp2_with fail;go_ret;exact ⟨rfl,(Below.refl _ _).alloc (Nat.le_refl _) _⟩
 have e:=Classical.not_not.1 e;subst e
 by_cases e:by_ ≠ (⟨#[]⟩:ByteArray)
 ·obtain rfl:r = false:=hno (by simp_all);have hq:by_.toList.isEmpty = false:=str_nz e;have hq3:(by_.toList == []) = false:=str_nz2 e;have hq2:¬ by_.toList = []:=str_nz' e;clear hno hyes e;go_enter Tryz.func197,Tryz.ntmps197;go_wp2_with fail;go_ret;exact ⟨rfl,(Below.refl _ _).alloc (Nat.le_refl _) _⟩
 have e:=Classical.not_not.1 e;subst e
 by_cases e:bt ≠ 0
 ·obtain rfl:r = false:=hno (by simp_all);have hq:(bt == 0) = false:=by simp [e]
  clear hno hyes e;go_enter Tryz.func197,Tryz.ntmps197;go_wp2_with fail;go_ret;exact ⟨rfl,(Below.refl _ _).alloc (Nat.le_refl _) _⟩
 have e:=Classical.not_not.1 e;subst e;obtain rfl:r = true:=hyes ⟨rfl,rfl,rfl,rfl,rfl,rfl,rfl,rfl⟩ rfl;clear hno hyes;go_enter Tryz.func197,Tryz.ntmps197;go_wp2_with fail;go_ret;exact ⟨rfl,(Below.refl _ _).alloc (Nat.le_refl _) _⟩
end Go.Proofs.YtpnlnbolhkcnjaaGreat.tm
