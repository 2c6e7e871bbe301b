/- TmA,TmB. No condition beyond theirs. -/
import Derived.Test.YtpnlnbolhkcnjaaGreatK00
import Derived.Deep.QuietTactic
import Derived.BigQuiet
import Derived.WalkSpells
import Derived.StillTailTactics
import Derived.Outline
import Derived.IntWalk
set_option linter.unusedSimpArgs false
set_option linter.unusedVariables false
set_option maxHeartbeats 1000000
set_option maxRecDepth 100000
namespace Go.Proofs.YtpnlnbolhkcnjaaGreat.tm
open Go.RowKit mem
structure TF where
 kind:Int
 int:Int
 gen:Int
 name:ByteArray
 func:ByteArray
 arity:Int
 bytes:ByteArray
 bits:Int
def Tm:Nat→Type
 | 0=>Empty
 | n + 1=>TF × List (Tm n)
def Tm.f {n:Nat} (t:Tm (n + 1)):TF:=Prod.fst t
def Tm.items {n:Nat} (t:Tm (n + 1)):List (Tm n):=Prod.snd t
def Tm.mk {n:Nat} (f:TF) (l:List (Tm n)):Tm (n + 1):=(f,l)
theorem Tm.ext {n:Nat} {a b:Tm (n + 1)} (h1:a.f = b.f) (h2:a.items = b.items):a = b:=Prod.ext h1 h2
theorem Tm.nil0 (l:List (Tm 0)):l = []:=by
 cases l with
 | nil=>rfl
 | cons a l=>exact (nomatch (show Empty from a))
def aggV (f:TF) (v:Value):Value:=.agg #[.int .i64 f.kind,.int .i64 f.int,.int .i64 f.gen,.string f.name,.string f.func,.int .i64 f.arity,v,.string f.bytes,.int .i64 f.bits]
structure Cells (w:World) (g o:Nat) (f:TF) (v:Value):Prop where
 c0:w.cell? ⟨g,o,none⟩ = some (.int .i64 f.kind)
 c1:w.cell? ⟨g,o + 1,none⟩ = some (.int .i64 f.int)
 c2:w.cell? ⟨g,o + 1 + 1,none⟩ = some (.int .i64 f.gen)
 c3:w.cell? ⟨g,o + 1 + 1 + 1,none⟩ = some (.string f.name)
 c4:w.cell? ⟨g,o + 1 + 1 + 1 + 1,none⟩ = some (.string f.func)
 c5:w.cell? ⟨g,o + 1 + 1 + 1 + 1 + 1,none⟩ = some (.int .i64 f.arity)
 c6:w.cell? ⟨g,o + 1 + 1 + 1 + 1 + 1 + 1,none⟩ = some v
 c7:w.cell? ⟨g,o + 1 + 1 + 1 + 1 + 1 + 1 + 1,none⟩ = some (.string f.bytes)
 c8:w.cell? ⟨g,o + 1 + 1 + 1 + 1 + 1 + 1 + 1 + 1,none⟩ = some (.int .i64 f.bits)
theorem Cells.same {w w':World} {g o:Nat} {f:TF} {v:Value} (h:Cells w g o f v) (hs:w'.heap[g]? = w.heap[g]?):Cells w' g o f v:=by
 have e:∀ x,w'.cell? ⟨g,x,none⟩ = w.cell? ⟨g,x,none⟩:=fun x=>World.cell?_of_block (w:=w) (w':=w') (a:=⟨g,x,none⟩) hs;exact ⟨(e _).trans h.c0,(e _).trans h.c1,(e _).trans h.c2,(e _).trans h.c3,(e _).trans h.c4,(e _).trans h.c5,(e _).trans h.c6,(e _).trans h.c7,(e _).trans h.c8⟩
def ItemsAt (w:World) (B:Nat):(n:Nat)→Value→List (Tm n)→Prop
 | 0,v,_=>∃ p c,v = .slice p 0 c∧c ≤ maxLen
 | n + 1,v,l=>∃ p c,v = .slice p l.length c∧l.length ≤ c∧c ≤ maxLen∧(l ≠ []→∃ g o,p = some ⟨g,o,none⟩∧g < B ∧
  ∀ j,(h:j < l.length)→∃ u,Cells w g (o + j * 9) (l[j]).f u∧ItemsAt w B n u (l[j]).items)
theorem ItemsAt.shape {w:World} {B n:Nat} {v:Value} {l:List (Tm n)} (h:ItemsAt w B n v l):∃ p c,v = .slice p l.length c∧l.length ≤ c∧c ≤ maxLen:=by
 cases n with
 | zero =>
  obtain ⟨p,c,rfl,hc⟩:=h;have:=Tm.nil0 l;subst this;exact ⟨p,c,rfl,Nat.zero_le _,hc⟩
 | succ n=>obtain ⟨p,c,e,h1,h2,_⟩:=h;exact ⟨p,c,e,h1,h2⟩
theorem ItemsAt.same {w w':World} {B:Nat} (hs:∀ g,g < B→w'.heap[g]? = w.heap[g]?):∀ {n:Nat} {v:Value} {l:List (Tm n)},ItemsAt w B n v l→ItemsAt w' B n v l:=by
 intro n
 induction n with
 | zero=>intro v l h;exact h
 | succ n ih =>
  intro v l h;obtain ⟨p,c,e,h1,h2,h3⟩:=h;refine ⟨p,c,e,h1,h2,fun hn=>?_⟩;obtain ⟨g,o,e,hg,hc⟩:=h3 hn;refine ⟨g,o,e,hg,fun j hj=>?_⟩;obtain ⟨u,hc1,hc2⟩:=hc j hj;exact ⟨u,hc1.same (hs g hg),ih hc2⟩
theorem ItemsAt.below {w w':World} {B B':Nat} {n:Nat} {v:Value} {l:List (Tm n)} (h:ItemsAt w B n v l) (hb:Below B' w w') (hB:B ≤ B'):ItemsAt w' B n v l :=
 h.same fun g hg=>hb.block g (by omega)
theorem ItemsAt.drewN {w:World} {B:Nat} {n:Nat} {v:Value} {l:List (Tm n)} (h:ItemsAt w B n v l) (m:Nat):ItemsAt (w.drewN m) B n v l:=ItemsAt.same (w:=w) (w':=w.drewN m) (B:=B) (fun _ _=>rfl) h
theorem ItemsAt.more {w:World} {B B':Nat} (hB:B ≤ B'):∀ {n:Nat} {v:Value} {l:List (Tm n)},ItemsAt w B n v l→ItemsAt w B' n v l:=by
 intro n
 induction n with
 | zero=>intro v l h;exact h
 | succ n ih =>
  intro v l h;obtain ⟨p,c,e,h1,h2,h3⟩:=h;refine ⟨p,c,e,h1,h2,fun hn=>?_⟩;obtain ⟨g,o,e,hg,hc⟩:=h3 hn;refine ⟨g,o,e,by omega,fun j hj=>?_⟩;obtain ⟨u,hc1,hc2⟩:=hc j hj;exact ⟨u,hc1,ih hc2⟩
theorem ItemsAt.at_ {w:World} {B n:Nat} {v:Value} {l:List (Tm (n + 1))} (h:ItemsAt w B (n + 1) v l) (hne:l ≠ []):∃ g o c,v = .slice (some ⟨g,o,none⟩) l.length c∧l.length ≤ c∧c ≤ maxLen∧g < B ∧
 ∀ j,(h:j < l.length)→∃ u,Cells w g (o + j * 9) (l[j]).f u∧ItemsAt w B n u (l[j]).items:=by
 obtain ⟨p,c,e,h1,h2,h3⟩:=h;obtain ⟨g,o,rfl,hg,hc⟩:=h3 hne;exact ⟨g,o,c,e,h1,h2,hg,hc⟩
theorem ItemsAt.nil_any {w:World} {B n c:Nat} {p:Option Addr} (hc:c ≤ maxLen):ItemsAt w B n (.slice p 0 c) ([]:List (Tm n)):=by
 cases n with
 | zero=>exact ⟨p,c,rfl,hc⟩
 | succ n=>exact ⟨p,c,rfl,Nat.zero_le _,hc,fun h=>absurd rfl h⟩
def liftT:(n:Nat)→Tm n→Tm (n + 1)
 | 0,t=>(nomatch (show Empty from t))
 | n + 1,t=>Tm.mk t.f (t.items.map (liftT n))
def liftL (n:Nat) (l:List (Tm n)):List (Tm (n + 1)):=l.map (liftT n)
theorem ItemsAt.lift {w:World} {B:Nat}:∀ {n:Nat} {v:Value} {l:List (Tm n)},ItemsAt w B n v l→ItemsAt w B (n + 1) v (liftL n l):=by
 intro n
 induction n with
 | zero =>
  intro v l h;obtain ⟨p,c,rfl,hc⟩:=h;have:=Tm.nil0 l;subst this;exact ⟨p,c,rfl,Nat.zero_le _,hc,fun h=>absurd rfl h⟩
 | succ n ih =>
  intro v l h;obtain ⟨p,c,e,h1,h2,h3⟩:=h;have hl:(liftL (n + 1) l).length = l.length:=by simp [liftL]
  refine ⟨p,c,by rw [hl];exact e,by rw [hl];exact h1,h2,fun hn=>?_⟩;obtain ⟨g,o,e,hg,hc⟩:=h3 (fun e=>hn (by rw [e];rfl));refine ⟨g,o,e,hg,fun j hj=>?_⟩;rw [hl] at hj;obtain ⟨u,hc1,hc2⟩:=hc j hj;have he:(liftL (n + 1) l)[j]'(by rw [hl];exact hj) = liftT (n + 1) l[j]:=by simp [liftL]
  rw [he];exact ⟨u,hc1,ih hc2⟩
theorem ItemsAt.to {w:World} {B n m:Nat} {v:Value} {l:List (Tm n)} (h:ItemsAt w B n v l) (hm:n ≤ m):∃ l':List (Tm m),ItemsAt w B m v l':=by
 induction m with
 | zero =>
  obtain rfl:n = 0:=by omega
  exact ⟨l,h⟩
 | succ m ih =>
  by_cases e:n = m + 1
  ·subst e;exact ⟨l,h⟩
  ·obtain ⟨l',h'⟩:=ih (by omega);exact ⟨_,h'.lift⟩
noncomputable def eqB {α:Type} (a b:α):Bool:=@decide (a = b) (Classical.propDecidable _)
theorem eqB_t {α:Type} {a b:α} (h:a = b):eqB a b = true:=@decide_eq_true _ (Classical.propDecidable _) h
theorem eqB_f {α:Type} {a b:α} (h:a ≠ b):eqB a b = false:=@decide_eq_false _ (Classical.propDecidable _) h
theorem ret1 {k:IntKind} {a b:Int} (h:a = b):Ending.returned (.int k a) = .returned (.int k b):=by rw [h]
theorem ret1b {a b:Bool} (h:a = b):Ending.returned (.bool a) = .returned (.bool b):=by rw [h]
def BPost (b:Bool) (w:World) (e:Ending) (w':World):Prop:=e = .returned (.bool b)∧Below w.heap.size w w'
theorem str_ne' {a b:ByteArray} (h:a ≠ b):¬ a.toList = b.toList:=by
 intro e;rw [ByteArray.toList_eq,ByteArray.toList_eq] at e;exact h (ByteArray.ext (Array.ext' e))
theorem str_ne {a b:ByteArray} (h:a ≠ b):(a.toList == b.toList) = false:=by
 cases hh:a.toList == b.toList with
 | false=>rfl
 | true=>exact absurd (eq_of_beq hh) (str_ne' h)
theorem bytes_self (a:ByteArray):(a == a) = true:=(bytes_beq a a).2 rfl
def SameS (n:Nat):Prop:=∀ (w:World) (B:Nat) (v1 v2:Value) (a b:List (Tm n)),B ≤ w.heap.size→ItemsAt w B n v1 a→ItemsAt w B n v2 b→Calls Tryz.prog 95 #[v1,v2] w (BPost (eqB a b) w)
theorem same_one {n:Nat} (ih:SameS n) (w:World) (B:Nat) (v1 v2:Value) (a b:Tm (n + 1)) (hB:B ≤ w.heap.size) (h1:ItemsAt w B n v1 a.items) (h2:ItemsAt w B n v2 b.items) :
 Calls Tryz.prog 38 #[aggV a.f v1,aggV b.f v2] w (BPost (eqB a b) w):=by
 have hno:a.f ≠ b.f→eqB a b = false:=fun h=>eqB_f (fun e=>h (by rw [e]));have hin:a.f = b.f→eqB a b = eqB a.items b.items:=fun h=>by
  by_cases e:a.items = b.items
  ·rw [eqB_t e,eqB_t (Tm.ext h e)]
  ·rw [eqB_f e,eqB_f (fun e2=>e (by rw [e2]))]
 have hI:=fun (W:World) (hb:Below w.heap.size w W)=>ih W B v1 v2 a.items b.items (Nat.le_trans hB hb.size) (h1.below hb hB) (h2.below hb hB);clear ih h1 h2;generalize a.items = l1 at *;generalize b.items = l2 at *;generalize eqB a b = r at *;generalize a.f = x at *;generalize b.f = y at *;obtain ⟨k1,i1,g1,n1,f1,a1,b1,s1⟩:=x;obtain ⟨k2,i2,g2,n2,f2,a2,b2,s2⟩:=y;unfold aggV;dsimp only
 by_cases e:k1 ≠ k2
 ·have hq:(k1 == k2) = false:=by simp [e]
  rw [hno (by intro h;simp only [TF.mk.injEq] at h;simp_all)];clear hno hin hI e;go_enter Tryz.func38,Tryz.ntmps38;go_wp2_with fail;go_ret;exact ⟨rfl,((Below.refl _ _).alloc (Nat.le_refl _) _).alloc (by simp) _⟩
 have e:=Classical.not_not.1 e;subst e;have qk:(k1 == k1) = true:=by first | exact bytes_self _ | simp
 by_cases e:i1 ≠ i2
 ·have hq:(i1 == i2) = false:=by simp [e]
  rw [hno (by intro h;simp only [TF.mk.injEq] at h;simp_all)];clear hno hin hI e;go_enter Tryz.func38,Tryz.ntmps38;go_wp2_with fail;go_ret;exact ⟨rfl,((Below.refl _ _).alloc (Nat.le_refl _) _).alloc (by simp) _⟩
 have e:=Classical.not_not.1 e;subst e;have qi:(i1 == i1) = true:=by first | exact bytes_self _ | simp
 by_cases e:g1 ≠ g2
 ·have hq:(g1 == g2) = false:=by simp [e]
  rw [hno (by intro h;simp only [TF.mk.injEq] at h;simp_all)];clear hno hin hI e;go_enter Tryz.func38,Tryz.ntmps38;go_wp2_with fail;go_ret;exact ⟨rfl,((Below.refl _ _).alloc (Nat.le_refl _) _).alloc (by simp) _⟩
 have e:=Classical.not_not.1 e;subst e;have qg:(g1 == g1) = true:=by first | exact bytes_self _ | simp
 by_cases e:n1 ≠ n2
 ·have hq:(n1.toList == n2.toList) = false:=str_ne e;have hq2:¬ n1.toList = n2.toList:=str_ne' e;rw [hno (by intro h;simp only [TF.mk.injEq] at h;simp_all)];clear hno hin hI e;go_enter Tryz.func38,Tryz.ntmps38;go_wp2_with fail;go_ret;exact ⟨rfl,((Below.refl _ _).alloc (Nat.le_refl _) _).alloc (by simp) _⟩
 have e:=Classical.not_not.1 e;subst e;have qn:(n1 == n1) = true:=by first | exact bytes_self _ | simp
 by_cases e:f1 ≠ f2
 ·have hq:(f1.toList == f2.toList) = false:=str_ne e;have hq2:¬ f1.toList = f2.toList:=str_ne' e;rw [hno (by intro h;simp only [TF.mk.injEq] at h;simp_all)];clear hno hin hI e;go_enter Tryz.func38,Tryz.ntmps38;go_wp2_with fail;go_ret;exact ⟨rfl,((Below.refl _ _).alloc (Nat.le_refl _) _).alloc (by simp) _⟩
 have e:=Classical.not_not.1 e;subst e;have qf:(f1 == f1) = true:=by first | exact bytes_self _ | simp
 by_cases e:a1 ≠ a2
 ·have hq:(a1 == a2) = false:=by simp [e]
  rw [hno (by intro h;simp only [TF.mk.injEq] at h;simp_all)];clear hno hin hI e;go_enter Tryz.func38,Tryz.ntmps38;go_wp2_with fail;go_ret;exact ⟨rfl,((Below.refl _ _).alloc (Nat.le_refl _) _).alloc (by simp) _⟩
 have e:=Classical.not_not.1 e;subst e;have qa:(a1 == a1) = true:=by first | exact bytes_self _ | simp
 by_cases e:b1 ≠ b2
 ·have hq:(b1.toList == b2.toList) = false:=str_ne e;have hq2:¬ b1.toList = b2.toList:=str_ne' e;rw [hno (by intro h;simp only [TF.mk.injEq] at h;simp_all)];clear hno hin hI e;go_enter Tryz.func38,Tryz.ntmps38;go_wp2_with fail;go_ret;exact ⟨rfl,((Below.refl _ _).alloc (Nat.le_refl _) _).alloc (by simp) _⟩
 have e:=Classical.not_not.1 e;subst e;have qb:(b1 == b1) = true:=by first | exact bytes_self _ | simp
 by_cases e:s1 ≠ s2
 ·have hq:(s1 == s2) = false:=by simp [e]
  rw [hno (by intro h;simp only [TF.mk.injEq] at h;simp_all)];clear hno hin hI e;go_enter Tryz.func38,Tryz.ntmps38;go_wp2_with fail;go_ret;exact ⟨rfl,((Below.refl _ _).alloc (Nat.le_refl _) _).alloc (by simp) _⟩
 have e:=Classical.not_not.1 e;subst e;have qs:(s1 == s1) = true:=by first | exact bytes_self _ | simp
 rw [hin rfl];clear hno hin;go_enter Tryz.func38,Tryz.ntmps38;go_wp2_with fail;refine (hI _ (((Below.refl _ _).alloc (Nat.le_refl _) _).alloc (by simp) _)).mono ?_;rintro e w' ⟨rfl,hb⟩;go_wp2_with fail;go_ret;exact ⟨rfl,(((Below.refl _ _).alloc (Nat.le_refl _) _).alloc (by simp) _).trans (hb.mono (by simp;omega))⟩
end Go.Proofs.YtpnlnbolhkcnjaaGreat.tm
