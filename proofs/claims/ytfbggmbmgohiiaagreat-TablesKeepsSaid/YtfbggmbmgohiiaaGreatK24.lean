/- Texts of this seat, one behind the other: TnE, TnF, TnG. No condition beyond theirs. -/
import Derived.Test.YtfbggmbmgohiiaaGreatK23
import Derived.Test.YtfbggmbmgohiiaaGreatK21
set_option linter.unusedSimpArgs false
set_option linter.unusedVariables false
set_option maxHeartbeats 4000000
set_option maxRecDepth 100000
namespace Go.Proofs.YtfbggmbmgohiiaaGreat.tm
open Go.RowKit mem names
def VPost (v:Value) (w:World) (e:Ending) (w':World):Prop:=e = .returned v∧Below w.heap.size w w'
theorem GoodC.all {α:Type} {S:α→Prop} {kd:α→Int}:∀ {l:List α} {a:α},GoodC S kd a l→∀ x ∈ a :: l,S x
 | [],a,h,x,hx=>by simp at hx;subst hx;exact h.1
 | b :: l,a,h,x,hx=>by
  rcases List.mem_cons.1 hx with rfl | hx
  ·exact h.1
  ·exact GoodC.all h.2 x hx
theorem GoodL.all {α:Type} {S:α→Prop} {kd:α→Int} {l:List α} (h:GoodL S kd l):∀ x ∈ l,S x:=by
 cases l with
 | nil=>simp
 | cons a l=>exact GoodC.all h
theorem GoodL.tail {α:Type} {S:α→Prop} {kd:α→Int} {l:List α} (h:GoodL S kd l):GoodL S kd (l.drop 1):=by
 cases l with
 | nil=>trivial
 | cons a l=>cases l with
  | nil=>trivial
  | cons b l=>exact h.2
theorem GoodL.last {α:Type} {S:α→Prop} {kd:α→Int} {l:List α} (h:GoodL S kd l) (h2:l.length = 2):kd (l[1]'(by omega)) ≠ 9:=by
 match l,h,h2 with
 | [a,b],h,_=>exact h.2.2
theorem ItemsAt.tail {w:World} {B n a x g o:Nat} {l:List (Tm (n + 1))} (h:ItemsAt w B (n + 1) (.slice (some ⟨g,o,none⟩) (a + 3) (x + 3)) l):ItemsAt w B (n + 1) (.slice (some ⟨g,o + 9,none⟩) (a + 2) (x + 2)) (l.drop 1):=by
 obtain ⟨p,c,e,h1,h2,h3⟩:=h
 simp only [Value.slice.injEq] at e
 obtain ⟨rfl,e2,rfl⟩:=e
 have hl:(l.drop 1).length = a + 2:=by simp;omega
 refine ⟨some ⟨g,o + 9,none⟩,x + 2,by rw [hl],by omega,by omega,fun _=>?_⟩
 obtain ⟨g',o',e,hg,hc⟩:=h3 (by intro e;subst e;simp at e2)
 simp only [Option.some.injEq,Addr.mk.injEq] at e
 obtain ⟨rfl,rfl,_⟩:=e
 refine ⟨g,o + 9,rfl,hg,fun j hj=>?_⟩
 obtain ⟨u,hc1,hc2⟩:=hc (j + 1) (by omega)
 have e:(l.drop 1)[j] = l[j + 1]'(by omega):=by simp [Nat.add_comm]
 rw [e,show o + 9 + j * 9 = o + (j + 1) * 9 by omega]
 exact ⟨u,hc1,hc2⟩
theorem ft_kind {n:Nat} {t:Tm (n + 1)} (h:formedT t = true):1 ≤ t.f.kind∧t.f.kind ≤ 10:=by
 obtain ⟨h1,h2,_,_⟩:=ft_ok h
 have h3:=of_decide_eq_true (show decide _ = true from h1)
 refine ⟨?_,h3.2⟩
 by_cases e:t.f.kind = 0
 ·unfold okF at h2
  rw [if_neg (by omega),if_neg (by omega),if_neg (by omega),if_neg (by omega),if_neg (by omega),if_neg (by omega),if_neg (by omega),if_neg (by omega)] at h2
  cases h2
 ·omega
end Go.Proofs.YtfbggmbmgohiiaaGreat.tm
