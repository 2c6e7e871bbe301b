/- CoP,CoQ,CoR. No condition beyond theirs. -/
import Derived.Test.YtpnlnbolhkcnjaaGreatK09
import Derived.BigRegion
import Derived.Deep.RegionHeld3
import Derived.Maps.AppendAt
set_option linter.unusedSimpArgs false
set_option linter.unusedVariables false
set_option maxHeartbeats 4000000
set_option maxRecDepth 100000
namespace Go.Proofs.YtpnlnbolhkcnjaaGreat.cl
open Go.RowKit mem words
def okW (m:Mm) (K:Bk) (b:Bool) (i:Nat) (v:Int):Prop:=Tm K v∧(pOk v = true→pOld v = false→b = false∧((i:Int) < m.at_→pIx v < m.at_))
def okAt (m:Mm) (K:Bk) (b:Bool) (i:Nat) (x:List Int):Prop:=okO x = true∧∀ v ∈ fol x,okW m K b i v
theorem blk_same {w w':World} {z:Nat} {o:Obj} (h:w.heap[z]? = some o) (hb:Below w.heap.size w w'):w'.heap[z]? = some o:=(hb.block z (Array.getElem?_eq_some_iff.1 h).1).trans h
theorem fxd_le (k:Int) (n:Nat):fxd k n ≤ n:=by
 unfold fxd
 split
 ·omega
 ·split
  ·omega
  ·omega
theorem sh_uniq {m:Mm} {K K':Bk} (h:Sh m K') (hy:Objs m.y K.y) (ho:Objs m.o K.o):K' = K:=by
 obtain ⟨a,b⟩:=K;obtain ⟨a',b'⟩:=K';have e1:a' = a:=Objs.uniq h.y hy;have e2:b' = b:=Objs.uniq h.o ho;rw [e1,e2]
theorem RowAt.cellB {w:World} {B:Nat} {p:Option Addr} {n c:Nat} {l:List Bool} (h:FAt w B (.slice p n c) l) (h0:0 < l.length):∃ g o,p = some ⟨g,o,none⟩∧n = l.length∧g < B∧∀ j,j < l.length→w.cell? ⟨g,o + j,none⟩ = some (.bool (l.getD j false)):=by
 obtain ⟨p',c',e,h1,h2,h3⟩:=h;simp only [Value.slice.injEq] at e;obtain ⟨rfl,rfl,rfl⟩:=e;obtain ⟨g,o,e,hg,hc⟩:=h3 (List.length_pos_iff.1 h0);refine ⟨g,o,e,rfl,hg,fun j hj=>?_⟩;rw [hc j hj,List.getD_eq_getElem?_getD,List.getElem?_eq_getElem hj];rfl
theorem marks_getD {a:List (List Int)} (ha:Pos a) {i:Nat} (hi:i < (marks a).length):(marks a).getD i false = true↔∃ x,At a i x:=by
 rw [← marks_iff ha,List.getD_eq_getElem?_getD,List.getElem?_eq_getElem hi];simp
def ShapePost (m:Mm) (w:World) (e:Ending) (w':World):Prop:=∃ r,e = .returned (.bool r)∧(r = true↔∃ K,Sh m K)∧Below w.heap.size w w'
def WOwn (w:World) (base:Nat) (v:Value) (l:List Int):Prop:=w.ownsRow base 40 1 v l.length (l.map (Value.int .u64))
theorem WOwn.nil (w:World) (base:Nat):WOwn w base (.slice none 0 0) []:=World.ownsRow_nil _ _ _ _
theorem WOwn.form {w:World} {base:Nat} {v:Value} {l:List Int} (h:WOwn w base v l):(v = .slice none 0 0∧l = [])∨∃ g c,v = .slice (some ⟨g,0,none⟩) l.length c∧base ≤ g∧g < w.heap.size∧l.length ≤ c∧c ≤ maxLen:=by
 rcases h.2 with ⟨h1,h2⟩ | ⟨g,cap,cur,h1,h2,h3,h4,h5,_⟩
 ·exact .inl ⟨h1,List.eq_nil_of_length_eq_zero h2⟩
 ·exact .inr ⟨g,cap,h1,h2,(Array.getElem?_eq_some_iff.1 h3).1,h4,h5⟩
theorem WOwn.shape {w:World} {base:Nat} {v:Value} {l:List Int} (h:WOwn w base v l):∃ p c,v = .slice p l.length c:=by
 rcases h.form with ⟨rfl,rfl⟩ | ⟨g,c,rfl,_⟩
 ·exact ⟨_,_,rfl⟩
 ·exact ⟨_,_,rfl⟩
theorem WOwn.row {w:World} {base:Nat} {v:Value} {l:List Int} (h:WOwn w base v l):WAt w w.heap.size v l:=by
 rcases h.form with ⟨rfl,rfl⟩ | ⟨g,c,rfl,h1,h2,h3,h4⟩
 ·exact ⟨none,0,rfl,Nat.le_refl _,by unfold maxLen;omega,fun hn=>absurd rfl hn⟩
 ·refine ⟨_,_,rfl,h3,h4,fun _=>⟨g,0,rfl,h2,fun j hj=>?_⟩⟩;rw [Nat.zero_add,World.ownsRow.cellAt h j (by omega)];rw [List.getElem?_map,List.getElem?_eq_getElem hj];rfl
theorem WOwn.ge {w:World} {base:Nat} {v:Value} {l:List Int} (h:WOwn w base v l):∀ k,v.ownBlock = some k→base ≤ k∧k < w.heap.size:=by
 intro k hk
 rcases h.form with ⟨rfl,rfl⟩ | ⟨g,c,rfl,h1,h2,_⟩
 ·simp [Value.ownBlock] at hk
 ·simp only [Value.ownBlock,Option.some.injEq] at hk;subst hk;exact ⟨h1,h2⟩
theorem WOwn.below {w w':World} {base:Nat} {v:Value} {l:List Int} (h:WOwn w base v l) (hb:Below w.heap.size w w'):WOwn w' base v l :=
 row_same h fun k hk=>hb.block k (h.ge k hk).2
theorem RowAt.nth' {w:World} {B:Nat} {p:Option Addr} {n c:Nat} {l:List Int} (h:WAt w B (.slice p n c) l) (h0:0 < l.length):∃ g o,p = some ⟨g,o,none⟩∧g < B∧∀ j x,l[j]? = some x→w.cell? ⟨g,o + j,none⟩ = some (.int .u64 x):=by
 obtain ⟨p',c',e,h1,h2,h3⟩:=h;simp only [Value.slice.injEq] at e;obtain ⟨rfl,rfl,rfl⟩:=e;obtain ⟨g,o,e,hg,hc⟩:=h3 (List.length_pos_iff.1 h0);refine ⟨g,o,e,hg,fun j x hx=>?_⟩;obtain ⟨hj,rfl⟩:=List.getElem?_eq_some_iff.1 hx;exact hc j hj
end Go.Proofs.YtpnlnbolhkcnjaaGreat.cl
