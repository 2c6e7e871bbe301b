/- TmY,TnI,TnJ. No condition beyond theirs. -/
import Derived.Test.YtpnlnbolhkcnjaaGreatK38
import Derived.Test.YtpnlnbolhkcnjaaGreatK28
import Derived.Laws.MakeOwn
set_option linter.unusedSimpArgs false
set_option linter.unusedVariables false
set_option maxHeartbeats 4000000
set_option maxRecDepth 100000
namespace Go.Proofs.YtpnlnbolhkcnjaaGreat.tm
open Go.RowKit mem names
theorem boxes2 (w:World) (f1 f2:TF) (v1 v2:Value):Nine ((w.alloc (cells9 f1 v1)).alloc (cells9 f2 v2)) w.heap.size f1 v1∧Nine ((w.alloc (cells9 f1 v1)).alloc (cells9 f2 v2)) (w.heap.size + 1) f2 v2∧Below w.heap.size w ((w.alloc (cells9 f1 v1)).alloc (cells9 f2 v2))∧((w.alloc (cells9 f1 v1)).alloc (cells9 f2 v2)).heap.size = w.heap.size + 2:=by
 have h1:=(MapKept.heap_alloc w (cells9 f1 v1)).1;have h2:=(MapKept.heap_alloc (w.alloc (cells9 f1 v1)) (cells9 f2 v2)).1;have h3:((w.alloc (cells9 f1 v1)).alloc (cells9 f2 v2)).heap[w.heap.size]? = some (cells9 f1 v1):=by rw [Below.heap_alloc _ _ _ (by simp)];exact h1
 exact ⟨nine_of h3,nine_of (by simpa using h2),((Below.refl _ _).alloc (Nat.le_refl _) _).alloc (by simp) _,by simp⟩
theorem NewAt.touch {w W0 w1 w':World} {F S:Nat→Prop} {n:Nat} {u:Value} {l:List (Tm n)} (h:NewAt W0 w1 F n u l) (ht:TouchB S w1 w') (hS:∀ g,F g→¬ S g) (hb:Below w.heap.size w w') (hw:w.heap.size ≤ W0.heap.size):NewAt w w' F n u l:=by
 have hs:∀ g,F g→w'.heap[g]? = w1.heap[g]?:=fun g hg=>ht.block g (h.inr g hg).2 (hS g hg)
 refine ⟨h.items.mono hs (fun _ h=>h),fun g hg=>?_,h.typed.same hs,fun g hg=>?_,hb⟩
 ·have:=h.inr g hg;have:=ht.size;omega
 ·exact (h.ptr g (by omega)).mono hs (fun _ h=>h)
def VPost (v:Value) (w:World) (e:Ending) (w':World):Prop:=e = .returned v∧Below w.heap.size w w'
def EMono (B:Nat) (E:World→(Nat→Prop)→Nat→TF→Value→Prop):Prop :=
 ∀ (w w':World) (F F':Nat→Prop) (j:Nat) (f:TF) (u:Value),(∀ g,F g→w'.heap[g]? = w.heap[g]?)→(∀ g,g < B→w'.heap[g]? = w.heap[g]?)→(∀ g,F g→F' g)→E w F j f u→E w' F' j f u
structure RowInv (E:World→(Nat→Prop)→Nat→TF→Value→Prop) (w wr:World) (cap k:Nat) (rs:List (TF × Value)) (F:Nat→Prop):Prop where
 own:wr.ownsRow w.heap.size 38 9 (.slice (some ⟨w.heap.size,0,none⟩) k cap) k (flatR rs)
 len:rs.length = k
 elt:∀ j,(h:j < rs.length)→E wr F j rs[j].1 rs[j].2∧PtrOK wr F w.heap.size rs[j].2
 typed:Typed wr F
 inr:∀ g,F g→w.heap.size < g∧g < wr.heap.size
 below:Below w.heap.size w wr
 lt:w.heap.size < wr.heap.size
variable {E:World→(Nat→Prop)→Nat→TF→Value→Prop} {w wr:World} {cap k:Nat} {rs:List (TF × Value)} {F:Nat→Prop}
theorem RowInv.start (cs:Array Value) (hc:cap ≤ maxLen) (hs:cs.size = cap * 9):RowInv E w (w.alloc (.cells cs 38)) cap 0 [] (fun _=>False) :=
 ⟨World.ownsRow_made w cs cap (Nat.le_refl _) hc hs,rfl,fun j h=>by simp at h,fun g h=>h.elim,fun g h=>h.elim,(Below.refl _ _).alloc (Nat.le_refl _) _,by simp⟩
theorem RowInv.next (hE:EMono w.heap.size E) (h:RowInv E w wr cap k rs F) {w3 w4:World} {F':Nat→Prop} {f:TF} {u:Value} (hb:Below wr.heap.size wr w3) (h1:E w3 F' k f u) (h2:PtrOK w3 F' w.heap.size u) (h3:Typed w3 F') (h4:∀ g,F' g→wr.heap.size ≤ g∧g < w3.heap.size)
 (hg:w3.grownBy w4 (some w.heap.size)) (hown:w4.ownsRow w.heap.size 38 9 (.slice (some ⟨w.heap.size,0,none⟩) (k + 1) cap) (k + 1) (flatR rs ++ nineL f u)):RowInv E w w4 cap (k + 1) (rs ++ [(f,u)]) (fun g=>F g∨F' g):=by
 have hlt:=h.lt;have hsz:=hb.size;have hs3:∀ g,F g→w3.heap[g]? = wr.heap[g]?:=fun g hg=>hb.block g (h.inr g hg).2;have hs4:∀ g,F g→w4.heap[g]? = wr.heap[g]?:=fun g hF=>(hg.block g (by have:=(h.inr g hF).2;omega) (by have:=(h.inr g hF).1;simp;omega)).trans (hs3 g hF);have hs4':∀ g,F' g→w4.heap[g]? = w3.heap[g]?:=fun g hF=>hg.block g (h4 g hF).2 (by have:=(h4 g hF).1;simp;omega);have hl:=h.len;have hg4:=hg.size
 refine ⟨?_,by simp [hl],fun j hj=>?_,?_,fun g hF=>?_,?_,by omega⟩
 ·rw [flatR_append];have e:flatR [(f,u)] = nineL f u:=by simp [flatR]
  rw [e];exact hown
 ·by_cases e:j < rs.length
  ·rw [List.getElem_append_left e];obtain ⟨a1,a2⟩:=h.elt j e;exact ⟨hE _ _ _ _ _ _ _ hs4 (fun g hg'=>(hg.block g (by omega) (by simp;omega)).trans (hb.block g (by omega))) (fun _ h=>.inl h) a1,a2.mono hs4 (fun _ h=>.inl h)⟩
  ·have ej:j = rs.length:=by simp at hj;omega
   subst ej;rw [List.getElem_append_right (Nat.le_refl _)];simp only [Nat.sub_self,List.getElem_cons_zero];refine ⟨?_,h2.mono hs4' (fun _ h=>.inr h)⟩;rw [hl];exact hE _ _ _ _ _ _ _ hs4' (fun g hg'=>hg.block g (by omega) (by simp;omega)) (fun _ h=>.inr h) h1
 ·exact (h.typed.same hs4).union (h3.same hs4')
 ·rcases hF with hF | hF
  ·have:=h.inr g hF;omega
  ·have:=h4 g hF;omega
 ·have hb1:=h.below.trans (hb.mono (by omega));exact ⟨hg.os.trans hb1.os,hg.tape.trans hb1.tape,hg.output.trans hb1.output,Nat.le_trans hb1.size hg.size,fun q hq=>(hg.block q (by omega) (by simp;omega)).trans (hb1.block q hq)⟩
theorem RowInv.cells (h:RowInv E w wr cap k rs F) (j:Nat) (hj:j < rs.length):Cells wr w.heap.size (j * 9) rs[j].1 rs[j].2:=row_cells h.own h.len j hj
theorem RowInv.full (h:RowInv E w wr cap k rs F) (hk:k = cap):Typed wr (fun g=>F g∨g = w.heap.size):=by
 have hown:=h.own
 rcases hown.2 with ⟨h',_⟩ | ⟨g',cap',cur,h',hbg,hg,hnc,hcm,hcs,htake⟩
 ·simp at h'
 ·simp only [Value.slice.injEq,Option.some.injEq,Addr.mk.injEq,and_true,true_and] at h';obtain ⟨rfl,rfl⟩:=h';refine h.typed.add hg hcs fun j hj=>?_;have hj':j < rs.length:=by rw [h.len];omega
  exact ⟨_,_,h.cells j hj',(h.elt j hj').2⟩
theorem RowInv.root (h:RowInv E w wr cap k rs F) (m:Nat) (hm:m ≤ cap) (g:Nat) (hgw:g < w.heap.size):PtrOK wr (fun g=>F g∨g = w.heap.size) g (.slice (some ⟨w.heap.size,0,none⟩) m cap):=by
 have hown:=h.own
 rcases hown.2 with ⟨h',_⟩ | ⟨g',cap',cur,h',hbg,hg,hnc,hcm,hcs,htake⟩
 ·simp at h'
 ·simp only [Value.slice.injEq,Option.some.injEq,Addr.mk.injEq,and_true,true_and] at h';obtain ⟨rfl,rfl⟩:=h';exact ⟨_,_,_,rfl,.inr ⟨_,0,cur,_,by rw [Nat.zero_mul],.inr rfl,hgw,hg,by rw [Nat.zero_add,hcs];omega,by omega⟩⟩
def EltIn (w:World) (F:Nat→Prop):(n:Nat)→Tm n→TF→Value→Prop
 | 0,_,_,_=>False
 | n + 1,t,f,u=>t.f = f∧ItemsIn w F n u t.items
theorem EltIn.mono {w w':World} {F F':Nat→Prop} (hs:∀ g,F g→w'.heap[g]? = w.heap[g]?) (hF:∀ g,F g→F' g) {n:Nat} {t:Tm n} {f:TF} {u:Value} (h:EltIn w F n t f u):EltIn w' F' n t f u:=by
 cases n with
 | zero=>exact h
 | succ n=>exact ⟨h.1,h.2.mono hs hF⟩
def EltL {n:Nat} (l:List (Tm n)) (w:World) (F:Nat→Prop) (j:Nat) (f:TF) (u:Value):Prop:=∃ h:j < l.length,EltIn w F n l[j] f u
theorem ItemsIn.mk {n:Nat} {w:World} {F:Nat→Prop} {g cap:Nat} (l:List (Tm n)) (rs:List (TF × Value)) (hl:rs.length = l.length) (hc:l.length ≤ cap) (hm:cap ≤ maxLen) (hF:F g) (h:∀ j,(hj:j < rs.length)→Cells w g (j * 9) rs[j].1 rs[j].2∧EltL l w F j rs[j].1 rs[j].2):ItemsIn w F n (.slice (some ⟨g,0,none⟩) l.length cap) l:=by
 cases n with
 | zero =>
  have:=Tm.nil0 l;subst this;exact ⟨_,_,rfl,hm⟩
 | succ n =>
  refine ⟨_,_,rfl,hc,hm,fun _=>⟨g,0,rfl,hF,fun j hj=>?_⟩⟩;obtain ⟨h1,_,h2,h3⟩:=h j (by omega);refine ⟨_,?_,h3⟩;rw [Nat.zero_add,h2];exact h1
end Go.Proofs.YtpnlnbolhkcnjaaGreat.tm
