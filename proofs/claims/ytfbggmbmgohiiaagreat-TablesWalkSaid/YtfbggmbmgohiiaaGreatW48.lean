/- Texts of this seat, one behind the other: TnL, TnM, TnN, TcZ. No condition beyond theirs. -/
import Derived.Test.YtfbggmbmgohiiaaGreatW25
import Derived.WalkSpells
import Derived.Test.YtfbggmbmgohiiaaGreatW02
set_option linter.unusedSimpArgs false
set_option linter.unusedVariables false
set_option maxHeartbeats 4000000
set_option maxRecDepth 100000
namespace Go.Proofs.YtfbggmbmgohiiaaGreat.tm
open Go.RowKit mem names
def markF:TF:=⟨-7,4711,0,⟨#[115,112,97,114,101]⟩,⟨#[]⟩,0,⟨#[]⟩,0⟩
def Spare (w:World) (g o:Nat):Prop:=Cells w g o markF nilV∧Cells w g (o + 9) markF nilV
def LentIn (w:World) (B:Nat) (F:Nat→Prop):(n:Nat)→Value→Value→List (Tm n)→Prop
 | 0,v0,v,_=>∃ p0 c0,v0 = .slice p0 0 c0∧c0 ≤ maxLen∧((p0 = none∧v = nilV)∨(p0 ≠ none∧∃ g o c,v = .slice (some ⟨g,o,none⟩) 0 c∧2 ≤ c∧c ≤ maxLen∧F g∧Spare w g o))
 | n + 1,v0,v,l=>∃ p0 c0,v0 = .slice p0 l.length c0∧l.length ≤ c0∧c0 ≤ maxLen∧((p0 = none∧v = nilV∧l = [])∨(p0 ≠ none∧∃ g o c,v = .slice (some ⟨g,o,none⟩) l.length c∧l.length + 2 ≤ c∧c ≤ maxLen∧F g∧Spare w g (o + l.length * 9) ∧
  ∀ j,(h:j < l.length)→∃ g0 o0 u0 u,p0 = some ⟨g0,o0,none⟩∧g0 < B∧Cells w g0 (o0 + j * 9) (l[j]).f u0∧Cells w g (o + j * 9) (l[j]).f u∧LentIn w B F n u0 u (l[j]).items))
theorem LentIn.mono {w w':World} {B:Nat} {F F':Nat→Prop} (hs:∀ g,F g→w'.heap[g]? = w.heap[g]?) (hB:∀ g,g < B→w'.heap[g]? = w.heap[g]?) (hF:∀ g,F g→F' g):∀ {n:Nat} {v0 v:Value} {l:List (Tm n)},LentIn w B F n v0 v l→LentIn w' B F' n v0 v l:=by
 intro n
 induction n with
 | zero =>
  intro v0 v l h
  obtain ⟨p0,c0,e,h1,h2⟩:=h
  refine ⟨p0,c0,e,h1,?_⟩
  rcases h2 with h2 | ⟨hp,g,o,c,e,h3,h4,h5,h6⟩
  ·exact .inl h2
  ·exact .inr ⟨hp,g,o,c,e,h3,h4,hF g h5,h6.1.same (hs g h5),h6.2.same (hs g h5)⟩
 | succ n ih =>
  intro v0 v l h
  obtain ⟨p0,c0,e,h1,h1',h2⟩:=h
  refine ⟨p0,c0,e,h1,h1',?_⟩
  rcases h2 with h2 | ⟨hp,g,o,c,e,h3,h4,h5,h6,h7⟩
  ·exact .inl h2
  ·refine .inr ⟨hp,g,o,c,e,h3,h4,hF g h5,⟨h6.1.same (hs g h5),h6.2.same (hs g h5)⟩,fun j hj=>?_⟩
   obtain ⟨g0,o0,u0,u,e0,hg0,c1,c2,c3⟩:=h7 j hj
   exact ⟨g0,o0,u0,u,e0,hg0,c1.same (hB g0 hg0),c2.same (hs g h5),ih c3⟩
theorem LentIn.toIn {w:World} {B:Nat} {F:Nat→Prop}:∀ {n:Nat} {v0 v:Value} {l:List (Tm n)},LentIn w B F n v0 v l→ItemsIn w F n v l:=by
 intro n
 induction n with
 | zero =>
  intro v0 v l h
  obtain ⟨p0,c0,e,h1,h2⟩:=h
  rcases h2 with ⟨_,e⟩ | ⟨hp,g,o,c,e,h3,h4,h5,h6⟩
  ·exact ⟨none,0,e,Nat.zero_le _⟩
  ·exact ⟨_,c,e,h4⟩
 | succ n ih =>
  intro v0 v l h
  obtain ⟨p0,c0,e,h1,h1',h2⟩:=h
  rcases h2 with ⟨_,ev,rfl⟩ | ⟨hp,g,o,c,e,h3,h4,h5,h6,h7⟩
  ·exact ⟨none,0,ev,Nat.zero_le _,Nat.zero_le _,fun h=>absurd rfl h⟩
  ·refine ⟨_,c,e,by omega,h4,fun _=>⟨g,o,rfl,h5,fun j hj=>?_⟩⟩
   obtain ⟨g0,o0,u0,u,e0,hg0,c1,c2,c3⟩:=h7 j hj
   exact ⟨u,c2,ih c3⟩
structure LentNew (w w':World) (B:Nat) (F:Nat→Prop) (n:Nat) (v0 v:Value) (l:List (Tm n)):Prop where
 items:LentIn w' B F n v0 v l
 inr:∀ g,F g→w.heap.size ≤ g∧g < w'.heap.size
 typed:Typed w' F
 ptr:∀ g,g < w.heap.size→PtrOK w' F g v
 below:Below w.heap.size w w'
theorem LentNew.touch {w W0 w1 w':World} {B:Nat} {F S:Nat→Prop} {n:Nat} {v0 u:Value} {l:List (Tm n)} (h:LentNew W0 w1 B F n v0 u l) (ht:TouchB S w1 w') (hS:∀ g,F g→¬ S g) (hb:Below w.heap.size w w') (hw:w.heap.size ≤ W0.heap.size) (hlow:B ≤ w.heap.size) (hw1:Below w.heap.size w w1):LentNew w w' B F n v0 u l:=by
 have hs:∀ g,F g→w'.heap[g]? = w1.heap[g]?:=fun g hg=>ht.block g (h.inr g hg).2 (hS g hg)
 refine ⟨h.items.mono hs (fun g hg=>(hb.block g (by omega)).trans (hw1.block g (by omega)).symm) (fun _ h=>h),fun g hg=>?_,h.typed.same hs,fun g hg=>?_,hb⟩
 ·have:=h.inr g hg
  have:=ht.size
  omega
 ·exact (h.ptr g (by omega)).mono hs (fun _ h=>h)
def LentElt (w:World) (B:Nat) (F:Nat→Prop) (p0:Option Addr) (j:Nat):(n:Nat)→Tm n→TF→Value→Prop
 | 0,_,_,_=>False
 | n + 1,t,f,u=>∃ g0 o0 u0,p0 = some ⟨g0,o0,none⟩∧g0 < B∧Cells w g0 (o0 + j * 9) t.f u0∧t.f = f∧LentIn w B F n u0 u t.items
def LentEl {n:Nat} (B:Nat) (p0:Option Addr) (l:List (Tm n)) (w:World) (F:Nat→Prop) (j:Nat) (f:TF) (u:Value):Prop:=(∃ h:j < l.length,LentElt w B F p0 j n l[j] f u)∨(l.length ≤ j∧f = markF∧u = nilV)
theorem LentIn.nil {w:World} {B:Nat} {F:Nat→Prop} {n c0:Nat} (hc:c0 ≤ maxLen):LentIn w B F n (.slice none 0 c0) nilV ([]:List (Tm n)):=by
 cases n with
 | zero=>exact ⟨none,c0,rfl,hc,.inl ⟨rfl,rfl⟩⟩
 | succ n=>exact ⟨none,c0,rfl,Nat.zero_le _,hc,.inl ⟨rfl,rfl,rfl⟩⟩
theorem RowInv.marks {E:World→(Nat→Prop)→Nat→TF→Value→Prop} {w wr:World} {cap k:Nat} {rs:List (TF × Value)} {F:Nat→Prop} (hE:EMono w.heap.size E) (h:RowInv E w wr cap k rs F) {w3 w4:World} (hb:Below wr.heap.size wr w3) (h1:∀ j F w,k ≤ j→E w F j markF nilV)
 (hg:w3.grownBy w4 (some w.heap.size)) (hown:w4.ownsRow w.heap.size 24 9 (.slice (some ⟨w.heap.size,0,none⟩) (k + 2) cap) (k + 2) (flatR rs ++ (nineL markF nilV ++ nineL markF nilV))):RowInv E w w4 cap (k + 2) (rs ++ [(markF,nilV),(markF,nilV)]) F:=by
 have hlt:=h.lt
 have hsz:=hb.size
 have hs3:∀ g,F g→w3.heap[g]? = wr.heap[g]?:=fun g hg=>hb.block g (h.inr g hg).2
 have hs4:∀ g,F g→w4.heap[g]? = wr.heap[g]?:=fun g hF=>(hg.block g (by have:=(h.inr g hF).2;omega) (by have:=(h.inr g hF).1;simp;omega)).trans (hs3 g hF)
 have hl:=h.len
 have hg4:=hg.size
 refine ⟨?_,by simp [hl],fun j hj=>?_,h.typed.same hs4,fun g hF=>?_,?_,by omega⟩
 ·rw [flatR_append]
  have e:flatR [(markF,nilV),(markF,nilV)] = nineL markF nilV ++ nineL markF nilV:=by simp [flatR]
  rw [e];exact hown
 ·by_cases e:j < rs.length
  ·rw [List.getElem_append_left e]
   obtain ⟨a1,a2⟩:=h.elt j e
   exact ⟨hE _ _ _ _ _ _ _ hs4 (fun g hg'=>(hg.block g (by omega) (by simp;omega)).trans (hb.block g (by omega))) (fun _ h=>h) a1,a2.mono hs4 (fun _ h=>h)⟩
  ·have e2:(rs ++ [(markF,nilV),(markF,nilV)])[j] = (markF,nilV):=by
    rw [List.getElem_append_right (by omega)]
    rcases (show j = rs.length∨j = rs.length + 1 by simp at hj;omega) with rfl | rfl <;> simp
   rw [e2]
   exact ⟨h1 j _ _ (by omega),PtrOK.nil⟩
 ·have:=h.inr g hF;omega
 ·have hb1:=h.below.trans (hb.mono (by omega))
  exact ⟨hg.os.trans hb1.os,hg.tape.trans hb1.tape,hg.output.trans hb1.output,Nat.le_trans hb1.size hg.size,fun q hq=>(hg.block q (by omega) (by simp;omega)).trans (hb1.block q hq)⟩
theorem LentIn.mk {n:Nat} {w:World} {F:Nat→Prop} {B g cap c0:Nat} {a0:Addr} (l:List (Tm n)) (rs:List (TF × Value)) (hl:rs.length = l.length + 2) (hc:l.length + 2 ≤ cap) (hm:cap ≤ maxLen) (hF:F g) (h0:l.length ≤ c0) (h0':c0 ≤ maxLen)
 (h:∀ j,(hj:j < rs.length)→Cells w g (j * 9) rs[j].1 rs[j].2∧LentEl B (some a0) l w F j rs[j].1 rs[j].2):LentIn w B F n (.slice (some a0) l.length c0) (.slice (some ⟨g,0,none⟩) l.length cap) l:=by
 have hsp:Spare w g (l.length * 9):=by
  obtain ⟨a1,a2⟩:=h l.length (by omega)
  obtain ⟨b1,b2⟩:=h (l.length + 1) (by omega)
  rcases a2 with ⟨h,_⟩ | ⟨_,e1,e2⟩
  ·omega
  rcases b2 with ⟨h,_⟩ | ⟨_,e3,e4⟩
  ·omega
  rw [e1,e2] at a1
  rw [e3,e4,Nat.add_mul,Nat.one_mul] at b1
  exact ⟨a1,b1⟩
 cases n with
 | zero =>
  have:=Tm.nil0 l
  subst this
  exact ⟨_,_,rfl,h0',.inr ⟨by simp,g,0,cap,rfl,by simpa using hc,hm,hF,by simpa using hsp⟩⟩
 | succ n =>
  refine ⟨_,_,rfl,h0,h0',.inr ⟨by simp,g,0,cap,rfl,hc,hm,hF,by simpa using hsp,fun j hj=>?_⟩⟩
  obtain ⟨h1,h2⟩:=h j (by omega)
  rcases h2 with ⟨_,g0,o0,u0,e0,hg0,hc0,hf,hli⟩ | ⟨h,_⟩
  ·refine ⟨g0,o0,u0,_,e0,hg0,hc0,?_,hli⟩
   rw [Nat.zero_add,hf];exact h1
  ·omega
theorem LentIn.cases {w:World} {B:Nat} {F:Nat→Prop} {n:Nat} {v0 v:Value} {l:List (Tm n)} (h:LentIn w B F n v0 v l):(∃ c0,v0 = .slice none 0 c0∧v = .slice none 0 0)∨(∃ a0 g o c0 c,v0 = .slice (some a0) l.length c0∧v = .slice (some ⟨g,o,none⟩) l.length c):=by
 cases n with
 | zero =>
  rw [Tm.nil0 l] at *
  obtain ⟨p0,c0,rfl,h1,h2⟩:=h
  rcases h2 with ⟨rfl,rfl⟩ | ⟨hp,g,o,c,rfl,h3,h4,h5,h6⟩
  ·exact .inl ⟨c0,rfl,rfl⟩
  ·cases p0 with
   | none=>exact absurd rfl hp
   | some a0=>exact .inr ⟨a0,g,o,c0,c,rfl,rfl⟩
 | succ n =>
  obtain ⟨p0,c0,rfl,h1,h1',h2⟩:=h
  rcases h2 with ⟨rfl,rfl,rfl⟩ | ⟨hp,g,o,c,rfl,h3,h4,h5,h6⟩
  ·exact .inl ⟨c0,rfl,rfl⟩
  ·cases p0 with
   | none=>exact absurd rfl hp
   | some a0=>exact .inr ⟨a0,g,o,c0,c,rfl,rfl⟩
theorem left_nodes:∀ (n:Nat) (l:List (Tm n)) (m:Int),0 ≤ leftS n l m→(nodesL n l:Int) ≤ m - leftS n l m:=by
 intro n
 induction n with
 | zero=>intro l m h;rw [Tm.nil0 l] at *;simp [nodesL,leftS]
 | succ n ih =>
  intro l
  induction l with
  | nil=>intro m h;simp [nodesL,leftS]
  | cons t l ihl =>
   intro m h
   rw [nodesL_cons]
   have e:leftS (n + 1) (t :: l) m = leftS (n + 1) l (leftStep (leftS n) m t):=rfl
   rw [e] at h ⊢
   by_cases h0:leftStep (leftS n) m t < 0
   ·have:=fold_neg (leftS n) _ h0 l
    have e2:leftS (n + 1) l (leftStep (leftS n) m t) = leftStep (leftS n) m t:=this
    rw [e2] at h;omega
   ·have k1:=ihl _ h
    have k2:(nodesT t:Int) ≤ m - leftStep (leftS n) m t:=by
     unfold leftStep at h0 ⊢
     by_cases hm:m < 0
     ·rw [if_pos hm] at h0;omega
     ·rw [if_neg hm] at h0 ⊢
      by_cases hb:leftB t.f m
      ·rw [if_pos hb] at h0;omega
      ·rw [if_neg hb] at h0 ⊢
       have k3:=ih t.items (leftN t.f m) (by omega)
       have k4:=leftN_bd t.f m (by omega) hb
       unfold nodesT
       omega
    omega
theorem great_nodes {n:Nat} {l:List (Tm n)} {m:Int} (h:greatS n l m = false):(nodesL n l:Int) ≤ m:=by
 unfold greatS at h
 have h':=of_decide_eq_false h
 have:=left_nodes n l m (by omega)
 omega
def LentW (W:World) (B n:Nat) (v0 v:Value) (l:List (Tm n)):Prop:=∃ F:Nat→Prop,(∀ g,F g→g < W.heap.size)∧LentIn W B F n v0 v l∧B ≤ W.heap.size
theorem LentW.below {W W':World} {B n:Nat} {v0 v:Value} {l:List (Tm n)} (h:LentW W B n v0 v l) (hb:Below W.heap.size W W'):LentW W' B n v0 v l:=by
 obtain ⟨F,h1,h2,h3⟩:=h
 exact ⟨F,fun g hg=>Nat.lt_of_lt_of_le (h1 g hg) hb.size,h2.mono (fun g hg=>hb.block g (h1 g hg)) (fun g hg=>hb.block g (by omega)) (fun _ h=>h),Nat.le_trans h3 hb.size⟩
theorem LentW.of {w w':World} {B:Nat} {F:Nat→Prop} {n:Nat} {v0 v:Value} {l:List (Tm n)} (h:LentNew w w' B F n v0 v l) (hB:B ≤ w.heap.size):LentW w' B n v0 v l :=
 ⟨F,fun g hg=>(h.inr g hg).2,h.items,Nat.le_trans hB h.below.size⟩
theorem LentW.items {W:World} {B n:Nat} {v0 v:Value} {l:List (Tm n)} (h:LentW W B n v0 v l):ItemsAt W W.heap.size n v l:=by
 obtain ⟨F,h1,h2,h3⟩:=h
 exact h2.toIn.toAt h1
end Go.Proofs.YtfbggmbmgohiiaaGreat.tm
