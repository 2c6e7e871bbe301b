/- Texts of this seat, one behind the other: TmP. No condition beyond theirs. -/
import Derived.Test.YtfbggmbmgohiiaaGreatK17
import Derived.Test.YtfbggmbmgohiiaaGreatK08
set_option linter.unusedSimpArgs false
set_option linter.unusedVariables false
set_option maxHeartbeats 4000000
set_option maxRecDepth 100000
namespace Go.Proofs.YtfbggmbmgohiiaaGreat.tm
open Go.RowKit mem names
theorem bare1 (i g:Int) (nm fn:ByteArray) (ar:Int) (by_:ByteArray) (bt:Int) (p:Option Addr) (n c:Nat) (w:World) :
 Calls Tryz.prog 116 #[aggV ⟨1,i,g,nm,fn,ar,by_,bt⟩ (.slice p n c)] w fun e w'=>e = .returned (aggV { bareF ⟨1,i,g,nm,fn,ar,by_,bt⟩ with kind:=0 } (bareV ⟨1,i,g,nm,fn,ar,by_,bt⟩ (.slice p n c)))∧Below w.heap.size w w':=by
 have hb:{ bareF ⟨1,i,g,nm,fn,ar,by_,bt⟩ with kind:=0 } = (⟨0,0,g,nm,fn,ar,by_,bt⟩:TF):=by simp [bareF]
 have hv:bareV ⟨1,i,g,nm,fn,ar,by_,bt⟩ (.slice p n c) = (Value.slice p n c):=by simp [bareV,nilV]
 rw [hb,hv]
 unfold aggV
 dsimp only
 clear hb hv
 go_enter Tryz.func116,Tryz.ntmps116
 go_wp2_with fail
 exact bodyPost_ret (v:=(.agg #[.int .i64 0,.int .i64 0,.int .i64 g,.string nm,.string fn,.int .i64 ar,(Value.slice p n c),.string by_,.int .i64 bt])) (by simp [results,Tryz.results116,go_sem, *]) rfl ⟨rfl,by (repeat' (first | with_reducible exact Below.refl _ _ | with_reducible exact Nat.le_refl _ | with_reducible refine Below.setCell ?_ ?_ _ | with_reducible refine Below.alloc ?_ ?_ _ | (simp;done) | (simp;omega)))⟩
theorem bare2 (i g:Int) (nm fn:ByteArray) (ar:Int) (by_:ByteArray) (bt:Int) (p:Option Addr) (n c:Nat) (w:World) :
 Calls Tryz.prog 116 #[aggV ⟨2,i,g,nm,fn,ar,by_,bt⟩ (.slice p n c)] w fun e w'=>e = .returned (aggV { bareF ⟨2,i,g,nm,fn,ar,by_,bt⟩ with kind:=0 } (bareV ⟨2,i,g,nm,fn,ar,by_,bt⟩ (.slice p n c)))∧Below w.heap.size w w':=by
 have hb:{ bareF ⟨2,i,g,nm,fn,ar,by_,bt⟩ with kind:=0 } = (⟨0,i,g,⟨#[]⟩,fn,ar,by_,bt⟩:TF):=by simp [bareF]
 have hv:bareV ⟨2,i,g,nm,fn,ar,by_,bt⟩ (.slice p n c) = (Value.slice p n c):=by simp [bareV,nilV]
 rw [hb,hv]
 unfold aggV
 dsimp only
 clear hb hv
 go_enter Tryz.func116,Tryz.ntmps116
 go_wp2_with fail
 exact bodyPost_ret (v:=(.agg #[.int .i64 0,.int .i64 i,.int .i64 g,.string ⟨#[]⟩,.string fn,.int .i64 ar,(Value.slice p n c),.string by_,.int .i64 bt])) (by simp [results,Tryz.results116,go_sem, *]) rfl ⟨rfl,by (repeat' (first | with_reducible exact Below.refl _ _ | with_reducible exact Nat.le_refl _ | with_reducible refine Below.setCell ?_ ?_ _ | with_reducible refine Below.alloc ?_ ?_ _ | (simp;done) | (simp;omega)))⟩
theorem bare3 (i g:Int) (nm fn:ByteArray) (ar:Int) (by_:ByteArray) (bt:Int) (p:Option Addr) (n c:Nat) (w:World) :
 Calls Tryz.prog 116 #[aggV ⟨3,i,g,nm,fn,ar,by_,bt⟩ (.slice p n c)] w fun e w'=>e = .returned (aggV { bareF ⟨3,i,g,nm,fn,ar,by_,bt⟩ with kind:=0 } (bareV ⟨3,i,g,nm,fn,ar,by_,bt⟩ (.slice p n c)))∧Below w.heap.size w w':=by
 have hb:{ bareF ⟨3,i,g,nm,fn,ar,by_,bt⟩ with kind:=0 } = (⟨0,0,0,⟨#[]⟩,fn,ar,by_,bt⟩:TF):=by simp [bareF]
 have hv:bareV ⟨3,i,g,nm,fn,ar,by_,bt⟩ (.slice p n c) = (Value.slice p n c):=by simp [bareV,nilV]
 rw [hb,hv]
 unfold aggV
 dsimp only
 clear hb hv
 go_enter Tryz.func116,Tryz.ntmps116
 go_wp2_with fail
 exact bodyPost_ret (v:=(.agg #[.int .i64 0,.int .i64 0,.int .i64 0,.string ⟨#[]⟩,.string fn,.int .i64 ar,(Value.slice p n c),.string by_,.int .i64 bt])) (by simp [results,Tryz.results116,go_sem, *]) rfl ⟨rfl,by (repeat' (first | with_reducible exact Below.refl _ _ | with_reducible exact Nat.le_refl _ | with_reducible refine Below.setCell ?_ ?_ _ | with_reducible refine Below.alloc ?_ ?_ _ | (simp;done) | (simp;omega)))⟩
theorem bare4 (i g:Int) (nm fn:ByteArray) (ar:Int) (by_:ByteArray) (bt:Int) (p:Option Addr) (n c:Nat) (w:World) :
 Calls Tryz.prog 116 #[aggV ⟨4,i,g,nm,fn,ar,by_,bt⟩ (.slice p n c)] w fun e w'=>e = .returned (aggV { bareF ⟨4,i,g,nm,fn,ar,by_,bt⟩ with kind:=0 } (bareV ⟨4,i,g,nm,fn,ar,by_,bt⟩ (.slice p n c)))∧Below w.heap.size w w':=by
 have hb:{ bareF ⟨4,i,g,nm,fn,ar,by_,bt⟩ with kind:=0 } = (⟨0,0,0,⟨#[]⟩,fn,0,by_,bt⟩:TF):=by simp [bareF]
 have hv:bareV ⟨4,i,g,nm,fn,ar,by_,bt⟩ (.slice p n c) = (Value.slice none 0 0):=by simp [bareV,nilV]
 rw [hb,hv]
 unfold aggV
 dsimp only
 clear hb hv
 go_enter Tryz.func116,Tryz.ntmps116
 go_wp2_with fail
 exact bodyPost_ret (v:=(.agg #[.int .i64 0,.int .i64 0,.int .i64 0,.string ⟨#[]⟩,.string fn,.int .i64 0,(Value.slice none 0 0),.string by_,.int .i64 bt])) (by simp [results,Tryz.results116,go_sem, *]) rfl ⟨rfl,by (repeat' (first | with_reducible exact Below.refl _ _ | with_reducible exact Nat.le_refl _ | with_reducible refine Below.setCell ?_ ?_ _ | with_reducible refine Below.alloc ?_ ?_ _ | (simp;done) | (simp;omega)))⟩
theorem bare5 (i g:Int) (nm fn:ByteArray) (ar:Int) (by_:ByteArray) (bt:Int) (p:Option Addr) (n c:Nat) (w:World) :
 Calls Tryz.prog 116 #[aggV ⟨5,i,g,nm,fn,ar,by_,bt⟩ (.slice p n c)] w fun e w'=>e = .returned (aggV { bareF ⟨5,i,g,nm,fn,ar,by_,bt⟩ with kind:=0 } (bareV ⟨5,i,g,nm,fn,ar,by_,bt⟩ (.slice p n c)))∧Below w.heap.size w w':=by
 have hb:{ bareF ⟨5,i,g,nm,fn,ar,by_,bt⟩ with kind:=0 } = (⟨0,i,g,⟨#[]⟩,⟨#[]⟩,0,by_,bt⟩:TF):=by simp [bareF]
 have hv:bareV ⟨5,i,g,nm,fn,ar,by_,bt⟩ (.slice p n c) = (Value.slice p n c):=by simp [bareV,nilV]
 rw [hb,hv]
 unfold aggV
 dsimp only
 clear hb hv
 go_enter Tryz.func116,Tryz.ntmps116
 go_wp2_with fail
 exact bodyPost_ret (v:=(.agg #[.int .i64 0,.int .i64 i,.int .i64 g,.string ⟨#[]⟩,.string ⟨#[]⟩,.int .i64 0,(Value.slice p n c),.string by_,.int .i64 bt])) (by simp [results,Tryz.results116,go_sem, *]) rfl ⟨rfl,by (repeat' (first | with_reducible exact Below.refl _ _ | with_reducible exact Nat.le_refl _ | with_reducible refine Below.setCell ?_ ?_ _ | with_reducible refine Below.alloc ?_ ?_ _ | (simp;done) | (simp;omega)))⟩
theorem bare6 (i g:Int) (nm fn:ByteArray) (ar:Int) (by_:ByteArray) (bt:Int) (p:Option Addr) (n c:Nat) (w:World) :
 Calls Tryz.prog 116 #[aggV ⟨6,i,g,nm,fn,ar,by_,bt⟩ (.slice p n c)] w fun e w'=>e = .returned (aggV { bareF ⟨6,i,g,nm,fn,ar,by_,bt⟩ with kind:=0 } (bareV ⟨6,i,g,nm,fn,ar,by_,bt⟩ (.slice p n c)))∧Below w.heap.size w w':=by
 have hb:{ bareF ⟨6,i,g,nm,fn,ar,by_,bt⟩ with kind:=0 } = (⟨0,0,0,⟨#[]⟩,fn,ar,by_,bt⟩:TF):=by simp [bareF]
 have hv:bareV ⟨6,i,g,nm,fn,ar,by_,bt⟩ (.slice p n c) = (Value.slice p n c):=by simp [bareV,nilV]
 rw [hb,hv]
 unfold aggV
 dsimp only
 clear hb hv
 go_enter Tryz.func116,Tryz.ntmps116
 go_wp2_with fail
 exact bodyPost_ret (v:=(.agg #[.int .i64 0,.int .i64 0,.int .i64 0,.string ⟨#[]⟩,.string fn,.int .i64 ar,(Value.slice p n c),.string by_,.int .i64 bt])) (by simp [results,Tryz.results116,go_sem, *]) rfl ⟨rfl,by (repeat' (first | with_reducible exact Below.refl _ _ | with_reducible exact Nat.le_refl _ | with_reducible refine Below.setCell ?_ ?_ _ | with_reducible refine Below.alloc ?_ ?_ _ | (simp;done) | (simp;omega)))⟩
theorem bare7 (i g:Int) (nm fn:ByteArray) (ar:Int) (by_:ByteArray) (bt:Int) (p:Option Addr) (n c:Nat) (w:World) :
 Calls Tryz.prog 116 #[aggV ⟨7,i,g,nm,fn,ar,by_,bt⟩ (.slice p n c)] w fun e w'=>e = .returned (aggV { bareF ⟨7,i,g,nm,fn,ar,by_,bt⟩ with kind:=0 } (bareV ⟨7,i,g,nm,fn,ar,by_,bt⟩ (.slice p n c)))∧Below w.heap.size w w':=by
 have hb:{ bareF ⟨7,i,g,nm,fn,ar,by_,bt⟩ with kind:=0 } = (⟨0,i,g,nm,fn,ar,by_,bt⟩:TF):=by simp [bareF]
 have hv:bareV ⟨7,i,g,nm,fn,ar,by_,bt⟩ (.slice p n c) = (Value.slice none 0 0):=by simp [bareV,nilV]
 rw [hb,hv]
 unfold aggV
 dsimp only
 clear hb hv
 go_enter Tryz.func116,Tryz.ntmps116
 go_wp2_with fail
 exact bodyPost_ret (v:=(.agg #[.int .i64 0,.int .i64 i,.int .i64 g,.string nm,.string fn,.int .i64 ar,(Value.slice none 0 0),.string by_,.int .i64 bt])) (by simp [results,Tryz.results116,go_sem, *]) rfl ⟨rfl,by (repeat' (first | with_reducible exact Below.refl _ _ | with_reducible exact Nat.le_refl _ | with_reducible refine Below.setCell ?_ ?_ _ | with_reducible refine Below.alloc ?_ ?_ _ | (simp;done) | (simp;omega)))⟩
theorem bareE (k i g:Int) (nm fn:ByteArray) (ar:Int) (by_:ByteArray) (bt:Int) (p:Option Addr) (n c:Nat) (hk:k ≠ 1∧k ≠ 2∧k ≠ 3∧k ≠ 4∧k ≠ 5∧k ≠ 6∧k ≠ 7∧k ≠ 9∧k ≠ 10) (w:World) :
 Calls Tryz.prog 116 #[aggV ⟨k,i,g,nm,fn,ar,by_,bt⟩ (.slice p n c)] w fun e w'=>e = .returned (aggV { bareF ⟨k,i,g,nm,fn,ar,by_,bt⟩ with kind:=0 } (bareV ⟨k,i,g,nm,fn,ar,by_,bt⟩ (.slice p n c)))∧Below w.heap.size w w':=by
 have hb:{ bareF ⟨k,i,g,nm,fn,ar,by_,bt⟩ with kind:=0 } = (⟨0,i,g,nm,fn,ar,by_,bt⟩:TF):=by simp [bareF,hk]
 have hv:bareV ⟨k,i,g,nm,fn,ar,by_,bt⟩ (.slice p n c) = (Value.slice p n c):=by simp [bareV,nilV,hk]
 rw [hb,hv]
 unfold aggV
 dsimp only
 clear hb hv
 have q1:(k == 1) = false:=by simp;omega
 have q2:(k == 2) = false:=by simp;omega
 have q3:(k == 3) = false:=by simp;omega
 have q4:(k == 4) = false:=by simp;omega
 have q5:(k == 5) = false:=by simp;omega
 have q6:(k == 6) = false:=by simp;omega
 have q7:(k == 7) = false:=by simp;omega
 have q9:(k == 9) = false:=by simp;omega
 have q10:(k == 10) = false:=by simp;omega
 clear hk
 go_enter Tryz.func116,Tryz.ntmps116
 go_wp2_with fail
 exact bodyPost_ret (v:=(.agg #[.int .i64 0,.int .i64 i,.int .i64 g,.string nm,.string fn,.int .i64 ar,(Value.slice p n c),.string by_,.int .i64 bt])) (by simp [results,Tryz.results116,go_sem, *]) rfl ⟨rfl,by (repeat' (first | with_reducible exact Below.refl _ _ | with_reducible exact Nat.le_refl _ | with_reducible refine Below.setCell ?_ ?_ _ | with_reducible refine Below.alloc ?_ ?_ _ | (simp;done) | (simp;omega)))⟩
theorem bare9 (i g:Int) (nm fn:ByteArray) (ar:Int) (by_:ByteArray) (bt:Int) (p:Option Addr) (n c:Nat) (w:World) :
 Calls Tryz.prog 116 #[aggV ⟨9,i,g,nm,fn,ar,by_,bt⟩ (.slice p n c)] w fun e w'=>e = .returned (aggV { bareF ⟨9,i,g,nm,fn,ar,by_,bt⟩ with kind:=0 } (bareV ⟨9,i,g,nm,fn,ar,by_,bt⟩ (.slice p n c)))∧Below w.heap.size w w':=by
 have hb:{ bareF ⟨9,i,g,nm,fn,ar,by_,bt⟩ with kind:=0 } = (⟨0,i,g,nm,fn,ar,by_,bt⟩:TF):=by simp [bareF]
 have hv:bareV ⟨9,i,g,nm,fn,ar,by_,bt⟩ (.slice p n c) = (Value.slice none 0 0):=by simp [bareV,nilV]
 rw [hb,hv]
 unfold aggV
 dsimp only
 clear hb hv
 go_enter Tryz.func116,Tryz.ntmps116
 go_wp2_with fail
 exact bodyPost_ret (v:=(.agg #[.int .i64 0,.int .i64 i,.int .i64 g,.string nm,.string fn,.int .i64 ar,(Value.slice none 0 0),.string by_,.int .i64 bt])) (by simp [results,Tryz.results116,go_sem, *]) rfl ⟨rfl,by (repeat' (first | with_reducible exact Below.refl _ _ | with_reducible exact Nat.le_refl _ | with_reducible refine Below.setCell ?_ ?_ _ | with_reducible refine Below.alloc ?_ ?_ _ | (simp;done) | (simp;omega)))⟩
theorem bare10 (i g:Int) (nm fn:ByteArray) (ar:Int) (by_:ByteArray) (bt:Int) (p:Option Addr) (n c:Nat) (w:World) :
 Calls Tryz.prog 116 #[aggV ⟨10,i,g,nm,fn,ar,by_,bt⟩ (.slice p n c)] w fun e w'=>e = .returned (aggV { bareF ⟨10,i,g,nm,fn,ar,by_,bt⟩ with kind:=0 } (bareV ⟨10,i,g,nm,fn,ar,by_,bt⟩ (.slice p n c)))∧Below w.heap.size w w':=by
 have hb:{ bareF ⟨10,i,g,nm,fn,ar,by_,bt⟩ with kind:=0 } = (⟨0,i,g,nm,fn,ar,⟨#[]⟩,0⟩:TF):=by simp [bareF]
 have hv:bareV ⟨10,i,g,nm,fn,ar,by_,bt⟩ (.slice p n c) = (Value.slice p n c):=by simp [bareV,nilV]
 rw [hb,hv]
 unfold aggV
 dsimp only
 clear hb hv
 go_enter Tryz.func116,Tryz.ntmps116
 go_wp2_with fail
 exact bodyPost_ret (v:=(.agg #[.int .i64 0,.int .i64 i,.int .i64 g,.string nm,.string fn,.int .i64 ar,(Value.slice p n c),.string ⟨#[]⟩,.int .i64 0])) (by simp [results,Tryz.results116,go_sem, *]) rfl ⟨rfl,by (repeat' (first | with_reducible exact Below.refl _ _ | with_reducible exact Nat.le_refl _ | with_reducible refine Below.setCell ?_ ?_ _ | with_reducible refine Below.alloc ?_ ?_ _ | (simp;done) | (simp;omega)))⟩
theorem bare (f:TF) (p:Option Addr) (n c:Nat) (w:World) :
 Calls Tryz.prog 116 #[aggV f (.slice p n c)] w fun e w'=>e = .returned (aggV { bareF f with kind:=0 } (bareV f (.slice p n c)))∧Below w.heap.size w w':=by
 obtain ⟨k,i,g,nm,fn,ar,by_,bt⟩:=f
 by_cases h:k ≠ 1∧k ≠ 2∧k ≠ 3∧k ≠ 4∧k ≠ 5∧k ≠ 6∧k ≠ 7∧k ≠ 9∧k ≠ 10
 ·exact bareE k i g nm fn ar by_ bt p n c h w
 ·have ways:k = 1∨k = 2∨k = 3∨k = 4∨k = 5∨k = 6∨k = 7∨k = 9∨k = 10:=by omega
  rcases ways with rfl | rfl | rfl | rfl | rfl | rfl | rfl | rfl | rfl
  ·exact bare1 i g nm fn ar by_ bt p n c w
  ·exact bare2 i g nm fn ar by_ bt p n c w
  ·exact bare3 i g nm fn ar by_ bt p n c w
  ·exact bare4 i g nm fn ar by_ bt p n c w
  ·exact bare5 i g nm fn ar by_ bt p n c w
  ·exact bare6 i g nm fn ar by_ bt p n c w
  ·exact bare7 i g nm fn ar by_ bt p n c w
  ·exact bare9 i g nm fn ar by_ bt p n c w
  ·exact bare10 i g nm fn ar by_ bt p n c w
theorem zeroT (f:TF) (p:Option Addr) (n c:Nat) (w:World):Calls Tryz.prog 115 #[aggV f (.slice p n c)] w (BPost (eqB f zeroF && decide (n = 0)) w):=by
 obtain ⟨k,i,g,nm,fn,ar,by_,bt⟩:=f
 have hno:¬ ((k = 0∧i = 0∧g = 0∧nm = ⟨#[]⟩∧fn = ⟨#[]⟩∧ar = 0∧by_ = ⟨#[]⟩∧bt = 0)∧n = 0)→(eqB (⟨k,i,g,nm,fn,ar,by_,bt⟩:TF) zeroF && decide (n = 0)) = false:=fun h=>by
  by_cases hn:n = 0
  ·rw [eqB_f (fun e=>h ⟨(eq_zeroF _ _ _ _ _ _ _ _).1 e,hn⟩)];rfl
  ·rw [decide_eq_false hn,Bool.and_false]
 have hyes:(k = 0∧i = 0∧g = 0∧nm = ⟨#[]⟩∧fn = ⟨#[]⟩∧ar = 0∧by_ = ⟨#[]⟩∧bt = 0)→n = 0→(eqB (⟨k,i,g,nm,fn,ar,by_,bt⟩:TF) zeroF && decide (n = 0)) = true:=fun h hn=>by
  rw [eqB_t ((eq_zeroF _ _ _ _ _ _ _ _).2 h),decide_eq_true hn];rfl
 unfold aggV zeroF at *
 dsimp only at *
 generalize (eqB (⟨k,i,g,nm,fn,ar,by_,bt⟩:TF) (⟨0,0,0,⟨#[]⟩,⟨#[]⟩,0,⟨#[]⟩,0⟩:TF) && decide (n = 0)) = r at *
 by_cases e:k ≠ 0
 ·obtain rfl:r = false:=hno (by simp_all)
  have hq:(k == 0) = false:=by simp [e]
  clear hno hyes e
  go_enter Tryz.func115,Tryz.ntmps115
  go_wp2_with fail
  go_ret
  exact ⟨rfl,(Below.refl _ _).alloc (Nat.le_refl _) _⟩
 have e:=Classical.not_not.1 e
 subst e
 by_cases e:i ≠ 0
 ·obtain rfl:r = false:=hno (by simp_all)
  have hq:(i == 0) = false:=by simp [e]
  clear hno hyes e
  go_enter Tryz.func115,Tryz.ntmps115
  go_wp2_with fail
  go_ret
  exact ⟨rfl,(Below.refl _ _).alloc (Nat.le_refl _) _⟩
 have e:=Classical.not_not.1 e
 subst e
 by_cases e:g ≠ 0
 ·obtain rfl:r = false:=hno (by simp_all)
  have hq:(g == 0) = false:=by simp [e]
  clear hno hyes e
  go_enter Tryz.func115,Tryz.ntmps115
  go_wp2_with fail
  go_ret
  exact ⟨rfl,(Below.refl _ _).alloc (Nat.le_refl _) _⟩
 have e:=Classical.not_not.1 e
 subst e
 by_cases e:nm ≠ (⟨#[]⟩:ByteArray)
 ·obtain rfl:r = false:=hno (by simp_all)
  have hq:nm.toList.isEmpty = false:=str_nz e
  have hq3:(nm.toList == []) = false:=str_nz2 e
  have hq2:¬ nm.toList = []:=str_nz' e
  clear hno hyes e
  go_enter Tryz.func115,Tryz.ntmps115
  go_wp2_with fail
  go_ret
  exact ⟨rfl,(Below.refl _ _).alloc (Nat.le_refl _) _⟩
 have e:=Classical.not_not.1 e
 subst e
 by_cases e:fn ≠ (⟨#[]⟩:ByteArray)
 ·obtain rfl:r = false:=hno (by simp_all)
  have hq:fn.toList.isEmpty = false:=str_nz e
  have hq3:(fn.toList == []) = false:=str_nz2 e
  have hq2:¬ fn.toList = []:=str_nz' e
  clear hno hyes e
  go_enter Tryz.func115,Tryz.ntmps115
  go_wp2_with fail
  go_ret
  exact ⟨rfl,(Below.refl _ _).alloc (Nat.le_refl _) _⟩
 have e:=Classical.not_not.1 e
 subst e
 by_cases e:ar ≠ 0
 ·obtain rfl:r = false:=hno (by simp_all)
  have hq:(ar == 0) = false:=by simp [e]
  clear hno hyes e
  go_enter Tryz.func115,Tryz.ntmps115
  go_wp2_with fail
  go_ret
  exact ⟨rfl,(Below.refl _ _).alloc (Nat.le_refl _) _⟩
 have e:=Classical.not_not.1 e
 subst e
 by_cases e:n ≠ 0
 ·obtain rfl:r = false:=hno (by simp_all)
  have hq:(((n:Nat):Int) == 0) = false:=by simp;omega
  clear hno hyes e
  go_enter Tryz.func115,Tryz.ntmps115
  go_wp2_with fail
  go_ret
  exact ⟨rfl,(Below.refl _ _).alloc (Nat.le_refl _) _⟩
 have e:=Classical.not_not.1 e
 subst e
 by_cases e:by_ ≠ (⟨#[]⟩:ByteArray)
 ·obtain rfl:r = false:=hno (by simp_all)
  have hq:by_.toList.isEmpty = false:=str_nz e
  have hq3:(by_.toList == []) = false:=str_nz2 e
  have hq2:¬ by_.toList = []:=str_nz' e
  clear hno hyes e
  go_enter Tryz.func115,Tryz.ntmps115
  go_wp2_with fail
  go_ret
  exact ⟨rfl,(Below.refl _ _).alloc (Nat.le_refl _) _⟩
 have e:=Classical.not_not.1 e
 subst e
 by_cases e:bt ≠ 0
 ·obtain rfl:r = false:=hno (by simp_all)
  have hq:(bt == 0) = false:=by simp [e]
  clear hno hyes e
  go_enter Tryz.func115,Tryz.ntmps115
  go_wp2_with fail
  go_ret
  exact ⟨rfl,(Below.refl _ _).alloc (Nat.le_refl _) _⟩
 have e:=Classical.not_not.1 e
 subst e
 obtain rfl:r = true:=hyes ⟨rfl,rfl,rfl,rfl,rfl,rfl,rfl,rfl⟩ rfl
 clear hno hyes
 go_enter Tryz.func115,Tryz.ntmps115
 go_wp2_with fail
 go_ret
 exact ⟨rfl,(Below.refl _ _).alloc (Nat.le_refl _) _⟩
end Go.Proofs.YtfbggmbmgohiiaaGreat.tm
