/- HsE,HsF. No condition beyond theirs. -/
import Derived.Test.YtpnlnbolhkcnjaaGreatK44
set_option linter.unusedSimpArgs false
set_option linter.unusedVariables false
set_option maxHeartbeats 4000000
set_option maxRecDepth 100000
namespace Go.Proofs.YtpnlnbolhkcnjaaGreat.hp
open Go.RowKit mem words rec tm
section
variable {N:Nat} {W W':World}
structure LxW (B0 lo:Nat) (W:World) (F:Nat→Prop) (N:Nat) (v0 v:Value) (l:List (Tm N)):Prop where
 it:LentIn W B0 F N v0 v l
 ty:Typed W F
 ptr:PtrOK W F 0 v
 inr:∀ g,F g→lo ≤ g∧g < W.heap.size
 lo:B0 ≤ lo
variable {B0 lo:Nat} {F:Nat→Prop} {v0 v:Value} {l:List (Tm N)}
theorem LxW.same (h:LxW B0 lo W F N v0 v l) (h1:∀ g,F g→W'.heap[g]? = W.heap[g]?) (h2:∀ g,g < B0→W'.heap[g]? = W.heap[g]?) (hz:W.heap.size ≤ W'.heap.size):LxW B0 lo W' F N v0 v l :=
 ⟨h.it.mono h1 h2 (fun _ h=>h),h.ty.same h1,h.ptr.mono h1 (fun _ h=>h),fun g hg=>⟨(h.inr g hg).1,Nat.lt_of_lt_of_le (h.inr g hg).2 hz⟩,h.lo⟩
theorem LxW.below (h:LxW B0 lo W F N v0 v l) (hB:B0 ≤ W.heap.size) (hb:Below W.heap.size W W'):LxW B0 lo W' F N v0 v l :=
 h.same (fun g hg=>hb.block g (h.inr g hg).2) (fun g hg=>hb.block g (by omega)) hb.size
theorem LxW.touch {S:Nat→Prop} (h:LxW B0 lo W F N v0 v l) (hB:B0 ≤ W.heap.size) (ht:TouchB S W W') (h1:∀ g,S g→¬ F g) (h2:∀ g,S g→B0 ≤ g):LxW B0 lo W' F N v0 v l :=
 h.same (fun g hg=>ht.block g (h.inr g hg).2 (fun e=>h1 g e hg)) (fun g hg=>ht.block g (by omega) (fun e=>by have:=h2 g e;omega)) ht.size
theorem LxW.at_ (h:LxW B0 lo W F N v0 v l):ItemsAt W W.heap.size N v l:=h.it.toIn.toAt (fun g hg=>(h.inr g hg).2)
theorem LxW.kept {t:Tm (N + 1)} (h:LxW B0 lo W F N v0 v t.items) (hB:B0 ≤ W.heap.size):Calls Tryz.prog 33 #[aggV t.f v,aggV t.f v0] W (BPost true W):=keptAll N W B0 F v0 v t hB (fun g hg=>(h.inr g hg).2) h.it
end
structure PS (w:World) {n:Nat} (t:Tm (n + 1)) (u up:Value) (F:Nat→Prop) (lo o1:Nat) (B z a b:Nat) (c:Int) (σ:St) (S:Nat→Prop) (W:World):Prop where
 hq:HQ W B z a b c σ S
 lx:LxW w.heap.size lo W F n u up t.items
 dis:∀ g,F g→¬ S g
 bt:W.heap[w.heap.size]? = some (.cells (C9f t.f u) 38)
 bo:W.heap[o1]? = some (.cells (C9f t.f up) 38)
 bb:Below w.heap.size w W
 s1:w.heap.size < B
 l1:w.heap.size < lo
 f1:¬ F o1
 so:¬ S o1
 ow:w.heap.size < o1
structure PT (w:World) {n:Nat} (t:Tm (n + 1)) (u:Value) (B z a b:Nat) (c:Int) (σ:St) (S:Nat→Prop) (W:World):Prop where
 hq:HQ W B z a b c σ S
 bt:W.heap[w.heap.size]? = some (.cells (C9f t.f u) 38)
 bb:Below w.heap.size w W
section
variable {w:World} {n:Nat} {t:Tm (n + 1)} {u up:Value} {F:Nat→Prop} {lo o1:Nat} {B z a b:Nat} {c:Int} {σ:St} {S:Nat→Prop} {W W':World}
theorem PS.below (h:PS w t u up F lo o1 B z a b c σ S W) (hb:Below W.heap.size W W'):PS w t u up F lo o1 B z a b c σ S W' where
 hq:=h.hq.below hb
 lx:=h.lx.below h.bb.size hb
 dis:=h.dis
 bt:=(hb.block _ (Array.getElem?_eq_some_iff.1 h.bt).1).trans h.bt
 bo:=(hb.block _ (Array.getElem?_eq_some_iff.1 h.bo).1).trans h.bo
 bb:=h.bb.trans (hb.mono h.bb.size)
 s1:=h.s1
 l1:=h.l1
 f1:=h.f1
 so:=h.so
 ow:=h.ow
theorem PS.low (h:PS w t u up F lo o1 B z a b c σ S W):∀ k,S k→w.heap.size < k:=fun k hk=>Nat.lt_of_lt_of_le h.s1 (h.hq.low k hk)
theorem PS.put {σ':St} (h:PS w t u up F lo o1 B z a b c σ S W) (hs:StepQ B z a b c S W σ' W'):∃ S',PS w t u up F lo o1 B z a b c σ' S' W':=by
 obtain ⟨S',hq,ht,hc⟩:=hs;have lt:=fun (k:Nat) (o:Obj) (hk:W.heap[k]? = some o)=>(Array.getElem?_eq_some_iff.1 hk).1
 refine ⟨S',⟨hq,h.lx.touch h.bb.size ht (fun g hs hf=>h.dis g hf hs) (fun g hg=>Nat.le_of_lt (h.low g hg)),fun g hf hs=>h.dis g hf (hc g hs (h.lx.inr g hf).2),?_,?_,?_,h.s1,h.l1,h.f1,fun hs=>h.so (hc o1 hs (lt _ _ h.bo)),h.ow⟩⟩
 ·exact (ht.block _ (lt _ _ h.bt) (fun hs=>Nat.lt_irrefl _ (h.low _ hs))).trans h.bt
 ·exact (ht.block _ (lt _ _ h.bo) h.so).trans h.bo
 ·exact h.bb.trans (ht.below (fun q hq=>Nat.le_of_lt (h.low q hq)) h.bb.size)
theorem PT.below (h:PT w t u B z a b c σ S W) (hb:Below W.heap.size W W'):PT w t u B z a b c σ S W' :=
 ⟨h.hq.below hb,(hb.block _ (Array.getElem?_eq_some_iff.1 h.bt).1).trans h.bt,h.bb.trans (hb.mono h.bb.size)⟩
theorem PS.need (h:PS w t u up F lo o1 B z a b c σ S W) (hr:rngT (n + 1) t) (hs:nodesT t ≤ 100000):Calls Tryz.prog 21 #[.pointer (some ⟨z,0,none⟩),aggV t.f up] W fun e w'=>e = .returned (.int .i64 (if validT t = true then needT (n + 1) t else 0))∧Below W.heap.size W w' :=
 need21 _ W up t h.lx.at_ hr hs
theorem PS.kept (h:PS w t u up F lo o1 B z a b c σ S W):Calls Tryz.prog 33 #[aggV t.f up,aggV t.f u] W (BPost true W):=h.lx.kept h.bb.size
theorem usedQ (h:HQ W B z a b c σ S) (hY:σ.Y.length ≤ 1000000):Calls Tryz.prog 19 #[.pointer (some ⟨z,0,none⟩)] W fun e w'=>e = .returned (.int .i64 σ.Y.length)∧Below W.heap.size W w':=by
 obtain ⟨vY,vF,m,p,cc,m1,m2,h⟩:=h;exact used19 h.ha hY
theorem roomQ (h:HQ W B z a b c σ S) (hY:σ.Y.length ≤ 1000000) (hc1:-2000000 ≤ c) (hc2:c ≤ 2000000):Calls Tryz.prog 39 #[.pointer (some ⟨z,0,none⟩)] W fun e w'=>e = .returned (.int .i64 (c - σ.Y.length))∧Below W.heap.size W w':=by
 obtain ⟨vY,vF,m,p,cc,m1,m2,h⟩:=h;exact room39 h.ha hY hc1 hc2
structure PutA (t:Tm (n + 1)) (c wv ev fv:Int) (σ':St):Prop where
 put:∀ {w:World} {u up:Value} {F:Nat→Prop} {lo o1 B z a b:Nat} {S:Nat→Prop} {W:World},PS w t u up F lo o1 B z a b c σ0 S W →
  Calls Tryz.prog 18 #[.pointer (some ⟨z,0,none⟩),aggV t.f up] W fun e w'=>e = .returned (.tuple #[.int .u64 wv,.int .i64 ev])∧∃ S',PS w t u up F lo o1 B z a b c σ' S' w'
 get:∀ {w:World} {u:Value} {B z a b:Nat} {S:Nat→Prop} {W:World},PT w t u B z a b c σ' S W →
  Calls Tryz.prog 29 #[.pointer (some ⟨z,0,none⟩),.int .u64 wv] W fun e w'=>∃ f2 u2 m2 k2,e = .returned (.tuple #[aggV f2 (.slice u2 m2 k2),.int .i64 fv])∧Below W.heap.size W w'∧(fv = 0→f2 = t.f∧ItemsAt w' w'.heap.size n (.slice u2 m2 k2) t.items)
 Y:σ'.Y.length ≤ 100000
end
end Go.Proofs.YtpnlnbolhkcnjaaGreat.hp
