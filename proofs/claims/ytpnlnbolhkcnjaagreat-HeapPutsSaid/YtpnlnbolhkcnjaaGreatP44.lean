/- TmY,TnI. No condition beyond theirs. -/
import Derived.Test.YtpnlnbolhkcnjaaGreatP43
import Derived.Test.YtpnlnbolhkcnjaaGreatP24
set_option linter.unusedSimpArgs false
set_option linter.unusedVariables false
set_option maxHeartbeats 4000000
set_option maxRecDepth 100000
namespace Go.Proofs.YtpnlnbolhkcnjaaGreat.tm
open Go.RowKit mem names
theorem boxes2 (w:World) (f1 f2:TF) (v1 v2:Value):Nine ((w.alloc (cells9 f1 v1)).alloc (cells9 f2 v2)) w.heap.size f1 v1∧Nine ((w.alloc (cells9 f1 v1)).alloc (cells9 f2 v2)) (w.heap.size + 1) f2 v2∧Below w.heap.size w ((w.alloc (cells9 f1 v1)).alloc (cells9 f2 v2))∧((w.alloc (cells9 f1 v1)).alloc (cells9 f2 v2)).heap.size = w.heap.size + 2:=by
 have h1:=(MapKept.heap_alloc w (cells9 f1 v1)).1;have h2:=(MapKept.heap_alloc (w.alloc (cells9 f1 v1)) (cells9 f2 v2)).1;have h3:((w.alloc (cells9 f1 v1)).alloc (cells9 f2 v2)).heap[w.heap.size]? = some (cells9 f1 v1):=by rw [Below.heap_alloc _ _ _ (by simp)];exact h1
 exact ⟨nine_of h3,nine_of (by simpa using h2),((Below.refl _ _).alloc (Nat.le_refl _) _).alloc (by simp) _,by simp⟩
theorem NewAt.touch {w W0 w1 w':World} {F S:Nat→Prop} {n:Nat} {u:Value} {l:List (Tm n)} (h:NewAt W0 w1 F n u l) (ht:TouchB S w1 w') (hS:∀ g,F g→¬ S g) (hb:Below w.heap.size w w') (hw:w.heap.size ≤ W0.heap.size):NewAt w w' F n u l:=by
 have hs:∀ g,F g→w'.heap[g]? = w1.heap[g]?:=fun g hg=>ht.block g (h.inr g hg).2 (hS g hg)
 refine ⟨h.items.mono hs (fun _ h=>h),fun g hg=>?_,h.typed.same hs,fun g hg=>?_,hb⟩
 ·have:=h.inr g hg;have:=ht.size;omega
 ·exact (h.ptr g (by omega)).mono hs (fun _ h=>h)
def VPost (v:Value) (w:World) (e:Ending) (w':World):Prop:=e = .returned v∧Below w.heap.size w w'
end Go.Proofs.YtpnlnbolhkcnjaaGreat.tm
