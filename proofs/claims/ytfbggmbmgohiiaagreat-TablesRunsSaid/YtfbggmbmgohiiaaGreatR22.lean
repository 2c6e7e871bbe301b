/- TmP. No condition beyond theirs. -/
import Derived.Test.YtfbggmbmgohiiaaGreatR21
import Derived.Test.YtfbggmbmgohiiaaGreatR08
set_option linter.unusedSimpArgs false
set_option linter.unusedVariables false
set_option maxHeartbeats 4000000
set_option maxRecDepth 100000
namespace Go.Proofs.YtfbggmbmgohiiaaGreat.tm
open Go.RowKit mem names
theorem R3(i g:Int)(nm fn:ByteArray)(ar:Int)(aL:ByteArray)(bt:Int)(p:Option Addr)(n c:Nat)(w:World) :
 Calls Tryz.prog 116 #[aj ⟨1,i,g,nm,fn,ar,aL,bt⟩ (.slice p n c)] w fun e w'=>e=.returned (aj { bG ⟨1,i,g,nm,fn,ar,aL,bt⟩with kind:=0 } (bQ ⟨1,i,g,nm,fn,ar,aL,bt⟩ (.slice p n c)))∧Below w.heap.size w w':=by
 have hb:{ bG ⟨1,i,g,nm,fn,ar,aL,bt⟩with kind:=0 }=(⟨0,0,g,nm,fn,ar,aL,bt⟩:TF):=by simp[bG]
 have hv:bQ ⟨1,i,g,nm,fn,ar,aL,bt⟩ (.slice p n c)=(Value.slice p n c):=by simp[bQ,aK]
 rw[hb,hv];unfold aj;dsimp only;clear hb hv;go_enter Tryz.func116,Tryz.ntmps116;go_wp2_with fail;exact bodyPost_ret (v:=(.agg #[.int .i64 0,.int .i64 0,.int .i64 g,.string nm,.string fn,.int .i64 ar,(Value.slice p n c),.string aL,.int .i64 bt])) (by simp[results,Tryz.results116,go_sem, *]) rfl ⟨rfl,Qz⟩
theorem R4(i g:Int)(nm fn:ByteArray)(ar:Int)(aL:ByteArray)(bt:Int)(p:Option Addr)(n c:Nat)(w:World) :
 Calls Tryz.prog 116 #[aj ⟨2,i,g,nm,fn,ar,aL,bt⟩ (.slice p n c)] w fun e w'=>e=.returned (aj { bG ⟨2,i,g,nm,fn,ar,aL,bt⟩with kind:=0 } (bQ ⟨2,i,g,nm,fn,ar,aL,bt⟩ (.slice p n c)))∧Below w.heap.size w w':=by
 have hb:{ bG ⟨2,i,g,nm,fn,ar,aL,bt⟩with kind:=0 }=(⟨0,i,g,⟨#[]⟩,fn,ar,aL,bt⟩:TF):=by simp[bG]
 have hv:bQ ⟨2,i,g,nm,fn,ar,aL,bt⟩ (.slice p n c)=(Value.slice p n c):=by simp[bQ,aK]
 rw[hb,hv];unfold aj;dsimp only;clear hb hv;go_enter Tryz.func116,Tryz.ntmps116;go_wp2_with fail;exact bodyPost_ret (v:=(.agg #[.int .i64 0,.int .i64 i,.int .i64 g,.string ⟨#[]⟩,.string fn,.int .i64 ar,(Value.slice p n c),.string aL,.int .i64 bt])) (by simp[results,Tryz.results116,go_sem, *]) rfl ⟨rfl,Qz⟩
theorem R5(i g:Int)(nm fn:ByteArray)(ar:Int)(aL:ByteArray)(bt:Int)(p:Option Addr)(n c:Nat)(w:World) :
 Calls Tryz.prog 116 #[aj ⟨3,i,g,nm,fn,ar,aL,bt⟩ (.slice p n c)] w fun e w'=>e=.returned (aj { bG ⟨3,i,g,nm,fn,ar,aL,bt⟩with kind:=0 } (bQ ⟨3,i,g,nm,fn,ar,aL,bt⟩ (.slice p n c)))∧Below w.heap.size w w':=by
 have hb:{ bG ⟨3,i,g,nm,fn,ar,aL,bt⟩with kind:=0 }=(⟨0,0,0,⟨#[]⟩,fn,ar,aL,bt⟩:TF):=by simp[bG]
 have hv:bQ ⟨3,i,g,nm,fn,ar,aL,bt⟩ (.slice p n c)=(Value.slice p n c):=by simp[bQ,aK]
 rw[hb,hv];unfold aj;dsimp only;clear hb hv;go_enter Tryz.func116,Tryz.ntmps116;go_wp2_with fail;exact bodyPost_ret (v:=(.agg #[.int .i64 0,.int .i64 0,.int .i64 0,.string ⟨#[]⟩,.string fn,.int .i64 ar,(Value.slice p n c),.string aL,.int .i64 bt])) (by simp[results,Tryz.results116,go_sem, *]) rfl ⟨rfl,Qz⟩
theorem R6(i g:Int)(nm fn:ByteArray)(ar:Int)(aL:ByteArray)(bt:Int)(p:Option Addr)(n c:Nat)(w:World) :
 Calls Tryz.prog 116 #[aj ⟨4,i,g,nm,fn,ar,aL,bt⟩ (.slice p n c)] w fun e w'=>e=.returned (aj { bG ⟨4,i,g,nm,fn,ar,aL,bt⟩with kind:=0 } (bQ ⟨4,i,g,nm,fn,ar,aL,bt⟩ (.slice p n c)))∧Below w.heap.size w w':=by
 have hb:{ bG ⟨4,i,g,nm,fn,ar,aL,bt⟩with kind:=0 }=(⟨0,0,0,⟨#[]⟩,fn,0,aL,bt⟩:TF):=by simp[bG]
 have hv:bQ ⟨4,i,g,nm,fn,ar,aL,bt⟩ (.slice p n c)=(Value.slice none 0 0):=by simp[bQ,aK]
 rw[hb,hv];unfold aj;dsimp only;clear hb hv;go_enter Tryz.func116,Tryz.ntmps116;go_wp2_with fail;exact bodyPost_ret (v:=(.agg #[.int .i64 0,.int .i64 0,.int .i64 0,.string ⟨#[]⟩,.string fn,.int .i64 0,(Value.slice none 0 0),.string aL,.int .i64 bt])) (by simp[results,Tryz.results116,go_sem, *]) rfl ⟨rfl,Qz⟩
theorem R7(i g:Int)(nm fn:ByteArray)(ar:Int)(aL:ByteArray)(bt:Int)(p:Option Addr)(n c:Nat)(w:World) :
 Calls Tryz.prog 116 #[aj ⟨5,i,g,nm,fn,ar,aL,bt⟩ (.slice p n c)] w fun e w'=>e=.returned (aj { bG ⟨5,i,g,nm,fn,ar,aL,bt⟩with kind:=0 } (bQ ⟨5,i,g,nm,fn,ar,aL,bt⟩ (.slice p n c)))∧Below w.heap.size w w':=by
 have hb:{ bG ⟨5,i,g,nm,fn,ar,aL,bt⟩with kind:=0 }=(⟨0,i,g,⟨#[]⟩,⟨#[]⟩,0,aL,bt⟩:TF):=by simp[bG]
 have hv:bQ ⟨5,i,g,nm,fn,ar,aL,bt⟩ (.slice p n c)=(Value.slice p n c):=by simp[bQ,aK]
 rw[hb,hv];unfold aj;dsimp only;clear hb hv;go_enter Tryz.func116,Tryz.ntmps116;go_wp2_with fail;exact bodyPost_ret (v:=(.agg #[.int .i64 0,.int .i64 i,.int .i64 g,.string ⟨#[]⟩,.string ⟨#[]⟩,.int .i64 0,(Value.slice p n c),.string aL,.int .i64 bt])) (by simp[results,Tryz.results116,go_sem, *]) rfl ⟨rfl,Qz⟩
theorem R8(i g:Int)(nm fn:ByteArray)(ar:Int)(aL:ByteArray)(bt:Int)(p:Option Addr)(n c:Nat)(w:World) :
 Calls Tryz.prog 116 #[aj ⟨6,i,g,nm,fn,ar,aL,bt⟩ (.slice p n c)] w fun e w'=>e=.returned (aj { bG ⟨6,i,g,nm,fn,ar,aL,bt⟩with kind:=0 } (bQ ⟨6,i,g,nm,fn,ar,aL,bt⟩ (.slice p n c)))∧Below w.heap.size w w':=by
 have hb:{ bG ⟨6,i,g,nm,fn,ar,aL,bt⟩with kind:=0 }=(⟨0,0,0,⟨#[]⟩,fn,ar,aL,bt⟩:TF):=by simp[bG]
 have hv:bQ ⟨6,i,g,nm,fn,ar,aL,bt⟩ (.slice p n c)=(Value.slice p n c):=by simp[bQ,aK]
 rw[hb,hv];unfold aj;dsimp only;clear hb hv;go_enter Tryz.func116,Tryz.ntmps116;go_wp2_with fail;exact bodyPost_ret (v:=(.agg #[.int .i64 0,.int .i64 0,.int .i64 0,.string ⟨#[]⟩,.string fn,.int .i64 ar,(Value.slice p n c),.string aL,.int .i64 bt])) (by simp[results,Tryz.results116,go_sem, *]) rfl ⟨rfl,Qz⟩
theorem R9(i g:Int)(nm fn:ByteArray)(ar:Int)(aL:ByteArray)(bt:Int)(p:Option Addr)(n c:Nat)(w:World) :
 Calls Tryz.prog 116 #[aj ⟨7,i,g,nm,fn,ar,aL,bt⟩ (.slice p n c)] w fun e w'=>e=.returned (aj { bG ⟨7,i,g,nm,fn,ar,aL,bt⟩with kind:=0 } (bQ ⟨7,i,g,nm,fn,ar,aL,bt⟩ (.slice p n c)))∧Below w.heap.size w w':=by
 have hb:{ bG ⟨7,i,g,nm,fn,ar,aL,bt⟩with kind:=0 }=(⟨0,i,g,nm,fn,ar,aL,bt⟩:TF):=by simp[bG]
 have hv:bQ ⟨7,i,g,nm,fn,ar,aL,bt⟩ (.slice p n c)=(Value.slice none 0 0):=by simp[bQ,aK]
 rw[hb,hv];unfold aj;dsimp only;clear hb hv;go_enter Tryz.func116,Tryz.ntmps116;go_wp2_with fail;exact bodyPost_ret (v:=(.agg #[.int .i64 0,.int .i64 i,.int .i64 g,.string nm,.string fn,.int .i64 ar,(Value.slice none 0 0),.string aL,.int .i64 bt])) (by simp[results,Tryz.results116,go_sem, *]) rfl ⟨rfl,Qz⟩
theorem R_(k i g:Int)(nm fn:ByteArray)(ar:Int)(aL:ByteArray)(bt:Int)(p:Option Addr)(n c:Nat)(hk:k≠1∧k≠2∧k≠3∧k≠4∧k≠5∧k≠6∧k≠7∧k≠9∧k≠10)(w:World) :
 Calls Tryz.prog 116 #[aj ⟨k,i,g,nm,fn,ar,aL,bt⟩ (.slice p n c)] w fun e w'=>e=.returned (aj { bG ⟨k,i,g,nm,fn,ar,aL,bt⟩with kind:=0 } (bQ ⟨k,i,g,nm,fn,ar,aL,bt⟩ (.slice p n c)))∧Below w.heap.size w w':=by
 have hb:{ bG ⟨k,i,g,nm,fn,ar,aL,bt⟩with kind:=0 }=(⟨0,i,g,nm,fn,ar,aL,bt⟩:TF):=by simp[bG,hk]
 have hv:bQ ⟨k,i,g,nm,fn,ar,aL,bt⟩ (.slice p n c)=(Value.slice p n c):=by simp[bQ,aK,hk]
 rw[hb,hv];unfold aj;dsimp only;clear hb hv;have q1:(k==1)=false:=by simp;omega
 have q2:(k==2)=false:=by simp;omega
 have q3:(k==3)=false:=by simp;omega
 have q4:(k==4)=false:=by simp;omega
 have q5:(k==5)=false:=by simp;omega
 have q6:(k==6)=false:=by simp;omega
 have q7:(k==7)=false:=by simp;omega
 have q9:(k==9)=false:=by simp;omega
 have NQ:(k==10)=false:=by simp;omega
 clear hk;go_enter Tryz.func116,Tryz.ntmps116;go_wp2_with fail;exact bodyPost_ret (v:=(.agg #[.int .i64 0,.int .i64 i,.int .i64 g,.string nm,.string fn,.int .i64 ar,(Value.slice p n c),.string aL,.int .i64 bt])) (by simp[results,Tryz.results116,go_sem, *]) rfl ⟨rfl,Qz⟩
theorem Sa(i g:Int)(nm fn:ByteArray)(ar:Int)(aL:ByteArray)(bt:Int)(p:Option Addr)(n c:Nat)(w:World) :
 Calls Tryz.prog 116 #[aj ⟨9,i,g,nm,fn,ar,aL,bt⟩ (.slice p n c)] w fun e w'=>e=.returned (aj { bG ⟨9,i,g,nm,fn,ar,aL,bt⟩with kind:=0 } (bQ ⟨9,i,g,nm,fn,ar,aL,bt⟩ (.slice p n c)))∧Below w.heap.size w w':=by
 have hb:{ bG ⟨9,i,g,nm,fn,ar,aL,bt⟩with kind:=0 }=(⟨0,i,g,nm,fn,ar,aL,bt⟩:TF):=by simp[bG]
 have hv:bQ ⟨9,i,g,nm,fn,ar,aL,bt⟩ (.slice p n c)=(Value.slice none 0 0):=by simp[bQ,aK]
 rw[hb,hv];unfold aj;dsimp only;clear hb hv;go_enter Tryz.func116,Tryz.ntmps116;go_wp2_with fail;exact bodyPost_ret (v:=(.agg #[.int .i64 0,.int .i64 i,.int .i64 g,.string nm,.string fn,.int .i64 ar,(Value.slice none 0 0),.string aL,.int .i64 bt])) (by simp[results,Tryz.results116,go_sem, *]) rfl ⟨rfl,Qz⟩
theorem N_(i g:Int)(nm fn:ByteArray)(ar:Int)(aL:ByteArray)(bt:Int)(p:Option Addr)(n c:Nat)(w:World) :
 Calls Tryz.prog 116 #[aj ⟨10,i,g,nm,fn,ar,aL,bt⟩ (.slice p n c)] w fun e w'=>e=.returned (aj { bG ⟨10,i,g,nm,fn,ar,aL,bt⟩with kind:=0 } (bQ ⟨10,i,g,nm,fn,ar,aL,bt⟩ (.slice p n c)))∧Below w.heap.size w w':=by
 have hb:{ bG ⟨10,i,g,nm,fn,ar,aL,bt⟩with kind:=0 }=(⟨0,i,g,nm,fn,ar,⟨#[]⟩,0⟩:TF):=by simp[bG]
 have hv:bQ ⟨10,i,g,nm,fn,ar,aL,bt⟩ (.slice p n c)=(Value.slice p n c):=by simp[bQ,aK]
 rw[hb,hv];unfold aj;dsimp only;clear hb hv;go_enter Tryz.func116,Tryz.ntmps116;go_wp2_with fail;exact bodyPost_ret (v:=(.agg #[.int .i64 0,.int .i64 i,.int .i64 g,.string nm,.string fn,.int .i64 ar,(Value.slice p n c),.string ⟨#[]⟩,.int .i64 0])) (by simp[results,Tryz.results116,go_sem, *]) rfl ⟨rfl,Qz⟩
theorem bare(f:TF)(p:Option Addr)(n c:Nat)(w:World) :
 Calls Tryz.prog 116 #[aj f (.slice p n c)] w fun e w'=>e=.returned (aj { bG f with kind:=0 } (bQ f (.slice p n c)))∧Below w.heap.size w w':=by
 obtain⟨k,i,g,nm,fn,ar,aL,bt⟩:=f
 by_cases h:k≠1∧k≠2∧k≠3∧k≠4∧k≠5∧k≠6∧k≠7∧k≠9∧k≠10
 ·exact R_ k i g nm fn ar aL bt p n c h w
 ·have ways:k=1∨k=2∨k=3∨k=4∨k=5∨k=6∨k=7∨k=9∨k=10:=by omega
  rcases ways with rfl|rfl|rfl|rfl|rfl|rfl|rfl|rfl|rfl
  ·exact R3 i g nm fn ar aL bt p n c w
  ·exact R4 i g nm fn ar aL bt p n c w
  ·exact R5 i g nm fn ar aL bt p n c w
  ·exact R6 i g nm fn ar aL bt p n c w
  ·exact R7 i g nm fn ar aL bt p n c w
  ·exact R8 i g nm fn ar aL bt p n c w
  ·exact R9 i g nm fn ar aL bt p n c w
  ·exact Sa i g nm fn ar aL bt p n c w
  ·exact N_ i g nm fn ar aL bt p n c w
theorem Sb(f:TF)(p:Option Addr)(n c:Nat)(w:World):Calls Tryz.prog 115 #[aj f (.slice p n c)] w (aV (dL f aY&&decide (n=0)) w):=by
 obtain⟨k,i,g,nm,fn,ar,aL,bt⟩:=f;have hno:¬((k=0∧i=0∧g=0∧nm=⟨#[]⟩∧fn=⟨#[]⟩∧ar=0∧aL=⟨#[]⟩∧bt=0)∧n=0)→(dL (⟨k,i,g,nm,fn,ar,aL,bt⟩:TF) aY&&decide (n=0))=false:=fun h=>by
  by_cases hn:n=0
  ·rw[gX (fun e=>h ⟨(qV _ _ _ _ _ _ _ _).1 e,hn⟩)];rfl
  ·rw[decide_eq_false hn,Bool.and_false]
 have eP:(k=0∧i=0∧g=0∧nm=⟨#[]⟩∧fn=⟨#[]⟩∧ar=0∧aL=⟨#[]⟩∧bt=0)→n=0→(dL (⟨k,i,g,nm,fn,ar,aL,bt⟩:TF) aY&&decide (n=0))=true:=fun h hn=>by
  rw[eR ((qV _ _ _ _ _ _ _ _).2 h),decide_eq_true hn];rfl
 unfold aj aY at*;dsimp only at*;generalize(dL (⟨k,i,g,nm,fn,ar,aL,bt⟩:TF) (⟨0,0,0,⟨#[]⟩,⟨#[]⟩,0,⟨#[]⟩,0⟩:TF)&&decide (n=0))=r at*
 by_cases e:k≠0
 ·obtain rfl:r=false:=hno (by simp_all);have hq:(k==0)=false:=by simp[e]
  clear hno eP e;go_enter Tryz.func115,Tryz.ntmps115;go_wp2_with fail;go_ret;exact⟨rfl,(Below.refl _ _).alloc (Nat.le_refl _) _⟩
 have e:=Classical.not_not.1 e;subst e
 by_cases e:i≠0
 ·obtain rfl:r=false:=hno (by simp_all);have hq:(i==0)=false:=by simp[e]
  clear hno eP e;go_enter Tryz.func115,Tryz.ntmps115;go_wp2_with fail;go_ret;exact⟨rfl,(Below.refl _ _).alloc (Nat.le_refl _) _⟩
 have e:=Classical.not_not.1 e;subst e
 by_cases e:g≠0
 ·obtain rfl:r=false:=hno (by simp_all);have hq:(g==0)=false:=by simp[e]
  clear hno eP e;go_enter Tryz.func115,Tryz.ntmps115;go_wp2_with fail;go_ret;exact⟨rfl,(Below.refl _ _).alloc (Nat.le_refl _) _⟩
 have e:=Classical.not_not.1 e;subst e
 by_cases e:nm≠(⟨#[]⟩:ByteArray)
 ·obtain rfl:r=false:=hno (by simp_all);have hq:nm.toList.isEmpty=false:=sw e;have Rw:(nm.toList==[])=false:=pH e;have jO:¬nm.toList=[]:=lN e;clear hno eP e;go_enter Tryz.func115,Tryz.ntmps115;go_wp2_with fail;go_ret;exact⟨rfl,(Below.refl _ _).alloc (Nat.le_refl _) _⟩
 have e:=Classical.not_not.1 e;subst e
 by_cases e:fn≠(⟨#[]⟩:ByteArray)
 ·obtain rfl:r=false:=hno (by simp_all);have hq:fn.toList.isEmpty=false:=sw e;have Rw:(fn.toList==[])=false:=pH e;have jO:¬fn.toList=[]:=lN e;clear hno eP e;go_enter Tryz.func115,Tryz.ntmps115;go_wp2_with fail;go_ret;exact⟨rfl,(Below.refl _ _).alloc (Nat.le_refl _) _⟩
 have e:=Classical.not_not.1 e;subst e
 by_cases e:ar≠0
 ·obtain rfl:r=false:=hno (by simp_all);have hq:(ar==0)=false:=by simp[e]
  clear hno eP e;go_enter Tryz.func115,Tryz.ntmps115;go_wp2_with fail;go_ret;exact⟨rfl,(Below.refl _ _).alloc (Nat.le_refl _) _⟩
 have e:=Classical.not_not.1 e;subst e
 by_cases e:n≠0
 ·obtain rfl:r=false:=hno (by simp_all);have hq:(((n:Nat):Int)==0)=false:=by simp;omega
  clear hno eP e;go_enter Tryz.func115,Tryz.ntmps115;go_wp2_with fail;go_ret;exact⟨rfl,(Below.refl _ _).alloc (Nat.le_refl _) _⟩
 have e:=Classical.not_not.1 e;subst e
 by_cases e:aL≠(⟨#[]⟩:ByteArray)
 ·obtain rfl:r=false:=hno (by simp_all);have hq:aL.toList.isEmpty=false:=sw e;have Rw:(aL.toList==[])=false:=pH e;have jO:¬aL.toList=[]:=lN e;clear hno eP e;go_enter Tryz.func115,Tryz.ntmps115;go_wp2_with fail;go_ret;exact⟨rfl,(Below.refl _ _).alloc (Nat.le_refl _) _⟩
 have e:=Classical.not_not.1 e;subst e
 by_cases e:bt≠0
 ·obtain rfl:r=false:=hno (by simp_all);have hq:(bt==0)=false:=by simp[e]
  clear hno eP e;go_enter Tryz.func115,Tryz.ntmps115;go_wp2_with fail;go_ret;exact⟨rfl,(Below.refl _ _).alloc (Nat.le_refl _) _⟩
 have e:=Classical.not_not.1 e;subst e;obtain rfl:r=true:=eP ⟨rfl,rfl,rfl,rfl,rfl,rfl,rfl,rfl⟩ rfl;clear hno eP;go_enter Tryz.func115,Tryz.ntmps115;go_wp2_with fail;go_ret;exact⟨rfl,(Below.refl _ _).alloc (Nat.le_refl _) _⟩
end Go.Proofs.YtfbggmbmgohiiaaGreat.tm
