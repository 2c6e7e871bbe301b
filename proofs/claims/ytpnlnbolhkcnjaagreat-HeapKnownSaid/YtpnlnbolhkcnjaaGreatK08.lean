/- CoK,CoL. No condition beyond theirs. -/
import Derived.Test.YtpnlnbolhkcnjaaGreatK07
set_option linter.unusedSimpArgs false
set_option linter.unusedVariables false
set_option maxHeartbeats 2000000
set_option maxRecDepth 100000
namespace Go.Proofs.YtpnlnbolhkcnjaaGreat.cl
open Go.RowKit mem words
theorem RowAt.blk {α:Type} {enc:α→Value} {w w':World} {B B' g o n c:Nat} {l:List α} (h:RowAt enc w B (.slice (some ⟨g,o,none⟩) n c) l) (hs:w'.heap[g]? = w.heap[g]?) (hg:g < B'):RowAt enc w' B' (.slice (some ⟨g,o,none⟩) n c) l:=by
 obtain ⟨p,c',e,h1,h2,h3⟩:=h;refine ⟨p,c',e,h1,h2,fun hn=>?_⟩;obtain ⟨g',o',e',hg',hc⟩:=h3 hn;have he:some (⟨g,o,none⟩:Addr) = some ⟨g',o',none⟩:=by
  simp only [Value.slice.injEq] at e;rw [e.1,e']
 simp only [Option.some.injEq,Addr.mk.injEq,and_true] at he;obtain ⟨rfl,rfl⟩:=he;exact ⟨g,o,e',hg,fun j hj=>(World.cell?_of_block (w:=w) (w':=w') (a:=⟨g,o + j,none⟩) hs).trans (hc j hj)⟩
theorem three_cells {w:World} {z:Nat} {a b c:Value} {t:TypeId} (h:w.heap[z]? = some (.cells #[a,b,c] t)):w.cell? ⟨z,0,none⟩ = some a∧w.cell? ⟨z,1,none⟩ = some b∧w.cell? ⟨z,2,none⟩ = some c∧∀ o,w.frozen? ⟨z,o,none⟩ = false:=by
 refine ⟨?_,?_,?_,fun o=>?_⟩
 ·simp only [World.cell?,h];rfl
 ·simp only [World.cell?,h];rfl
 ·simp only [World.cell?,h];rfl
 ·simp only [World.frozen?,h];simp
structure BookAt (w:World) (B:Nat) (v1 v2 v3 v4:Value) (m:Mm) (K:Bk):Prop where
 y:WAt w B v1 m.y
 o:WAt w B v2 m.o
 fy:FAt w B v3 (marks K.y)
 fo:FAt w B v4 (marks K.o)
 oy:Objs m.y K.y
 oo:Objs m.o K.o
 wy:Wds m.y
 wo:Wds m.o
 ly:m.y.length ≤ 100000
 lo:m.o.length ≤ 100000
def ObR (K:Bk) (w:World) (v:Int) (e:Ending):Prop :=
 (∃ x p n c,Pt K v x∧e = .returned (.tuple #[.int .i64 (knd x),.slice p n c,.bool (pOld v),.int .i64 (pIx v),.bool true])∧WAt w w.heap.size (.slice p n c) (wds x))∨((¬ ∃ x,Pt K v x)∧e = .returned (.tuple #[.int .i64 0,.slice none 0 0,.bool false,.int .i64 0,.bool false]))
theorem below_drewN {B:Nat} {a w:World} (h:Below B a w) (n:Nat):Below B a (w.drewN n):=⟨h.os,h.tape,h.output,h.size,h.block⟩
def ObB (K:Bk) (B:Nat) (w:World) (v:Int) (e:Ending):Prop :=
 (∃ x p n c,Pt K v x∧e = .returned (.tuple #[.int .i64 (knd x),.slice p n c,.bool (pOld v),.int .i64 (pIx v),.bool true])∧WAt w B (.slice p n c) (wds x))∨((¬ ∃ x,Pt K v x)∧e = .returned (.tuple #[.int .i64 0,.slice none 0 0,.bool false,.int .i64 0,.bool false]))
theorem ObB.r {K:Bk} {B:Nat} {w:World} {v:Int} {e:Ending} (h:ObB K B w v e) (hB:B ≤ w.heap.size):ObR K w v e:=by
 rcases h with ⟨x,p,n,c,h1,h2,h3⟩ | h
 ·exact .inl ⟨x,p,n,c,h1,h2,h3.more hB⟩
 ·exact .inr h
end Go.Proofs.YtpnlnbolhkcnjaaGreat.cl
