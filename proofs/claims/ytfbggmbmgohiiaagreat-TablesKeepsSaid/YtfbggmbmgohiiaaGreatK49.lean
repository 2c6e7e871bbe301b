/- Texts of this seat, one behind the other: OrD, ToA, TnT, TnU, TnV, ToJ, ToG, ToK, ToH, ToL, TcX. No condition beyond theirs. -/
import Init.Data.List.Lemmas
import Derived.Test.YtfbggmbmgohiiaaGreatK37
import Derived.Test.YtfbggmbmgohiiaaGreatK38
import Derived.Test.YtfbggmbmgohiiaaGreatK26
import Derived.Deep.CutRange
import Derived.Test.YtfbggmbmgohiiaaGreatK24
set_option linter.unusedSimpArgs false
set_option linter.unusedVariables false
set_option maxHeartbeats 4000000
set_option maxRecDepth 100000
namespace Go.Proofs.YtfbggmbmgohiiaaGreat.tm
variable {α:Type} {lt:α→α→Prop} {S:α→Prop}
inductive Full (lt:α→α→Prop) (bs:Nat):List α→List α→Prop
 | nil:Full lt bs [] []
 | snoc {D M x y:List α}:Full lt bs D M→x.length = bs→x.Perm y→x.Pairwise lt→Full lt bs (D ++ x) (M ++ y)
inductive Blks (lt:α→α→Prop) (bs:Nat):List α→List α→Prop
 | last {x y:List α}:x.length ≤ bs→x.Perm y→x.Pairwise lt→Blks lt bs x y
 | cons {x y D M:List α}:x.length = bs→x.Perm y→x.Pairwise lt→Blks lt bs D M→Blks lt bs (x ++ D) (y ++ M)
theorem Blks.perm {bs:Nat} {D M:List α} (h:Blks lt bs D M):D.Perm M:=by
 induction h with
 | last _ hp _=>exact hp
 | cons _ hp _ _ ih=>exact hp.append ih
theorem Full.perm {bs:Nat} {D M:List α} (h:Full lt bs D M):D.Perm M:=by
 induction h with
 | nil=>exact .nil
 | snoc _ _ hp _ ih=>exact ih.append hp
theorem Blks.two {bs:Nat} {D M:List α} (h:Blks lt bs D M) (hb:0 < bs) (hl:2 * bs ≤ D.length):∃ x1 x2 D' y1 y2 M',D = x1 ++ (x2 ++ D')∧M = y1 ++ (y2 ++ M')∧x1.length = bs∧x2.length = bs∧x1.Perm y1∧x2.Perm y2∧x1.Pairwise lt∧x2.Pairwise lt∧Blks lt bs D' M':=by
 cases h with
 | last h1 _ _=>omega
 | cons h1 p1 s1 h =>
  cases h with
  | last h2 p2 s2 =>
   rename_i x y x' y'
   simp at hl
   exact ⟨x,x',[],y,y',[],by simp,by simp,h1,by omega,p1,p2,s1,s2,.last (by simp) .nil .nil⟩
  | cons h2 p2 s2 h=>exact ⟨_,_,_,_,_,_,rfl,rfl,h1,h2,p1,p2,s1,s2,h⟩
theorem Blks.rest {bs:Nat} {D M:List α} (h:Blks lt bs D M) (hb:0 < bs) (hl:D.length < 2 * bs) (hm:bs < D.length):∃ x1 x2 y1 y2,D = x1 ++ x2∧M = y1 ++ y2∧x1.length = bs∧x2 ≠ []∧x1.Perm y1∧x2.Perm y2∧x1.Pairwise lt∧x2.Pairwise lt:=by
 cases h with
 | last h1 _ _=>omega
 | cons h1 p1 s1 h =>
  cases h with
  | last h2 p2 s2=>exact ⟨_,_,_,_,rfl,rfl,h1,by rintro rfl;simp at hm;omega,p1,p2,s1,s2⟩
  | cons h2 p2 s2 h=>simp at hl;omega
theorem Blks.one {bs:Nat} {D M:List α} (h:Blks lt bs D M) (hl:D.length ≤ bs):D.Perm M∧D.Pairwise lt:=by
 cases h with
 | last h1 p s=>exact ⟨p,s⟩
 | cons h1 p1 s1 h =>
  rename_i x y D' M'
  simp at hl
  have e:D' = []:=List.eq_nil_of_length_eq_zero (by omega)
  subst e
  have:=h.perm.length_eq
  have e:M' = []:=List.eq_nil_of_length_eq_zero (by simpa using this.symm)
  subst e
  simpa using ⟨p1,s1⟩
end Go.Proofs.YtfbggmbmgohiiaaGreat.tm
namespace Go.Proofs.YtfbggmbmgohiiaaGreat.tm
open Go.RowKit mem names
variable {α:Type} {enc:α→TF × Value} {w0 wr w:World} {b n cap:Nat} {d:List α} {S:α→Prop} {c:α→α→Int} {tg:α→Nat}
def SwapInv (enc:α→TF × Value) (w0 wr:World) (b n cap:Nat) (A X M Y C:List α) (i:Nat):Prop :=
 ∃ X1 X2 Y1 Y2,X = X1 ++ X2∧Y = Y1 ++ Y2∧X1.length = i∧Y1.length = i∧RowW enc w0 wr b n cap (A ++ (Y1 ++ (X2 ++ (M ++ (X1 ++ (Y2 ++ C))))))
theorem SwapInv.take {A X M Y C:List α} {i k a b2:Nat} (h:SwapInv enc w0 wr b n cap A X M Y C i) (ha:A.length = a) (hk:X.length = k) (hk2:Y.length = k) (hb:a + k + M.length = b2) (hi:i < k) (hS:∀ x ∈ X ++ Y,S x) :
 ∃ P Q R x y,P.length = a + i∧P.length + 1 + Q.length = b2 + i∧S x∧S y∧RowW enc w0 wr b n cap (P ++ x :: (Q ++ y :: R))∧(∀ w',RowW enc w0 w' b n cap (P ++ y :: (Q ++ x :: R))→SwapInv enc w0 w' b n cap A X M Y C (i + 1)):=by
 obtain ⟨X1,X2,Y1,Y2,rfl,rfl,h1,h2,h3⟩:=h
 cases X2 with
 | nil=>simp at hk;omega
 | cons x X2 =>
  cases Y2 with
  | nil=>simp at hk2;omega
  | cons y Y2 =>
   simp at hk hk2
   refine ⟨A ++ Y1,X2 ++ (M ++ X1),Y2 ++ C,x,y,by simp;omega,by simp;omega,hS x (by simp),hS y (by simp),by simpa using h3,fun w' hw=>?_⟩
   exact ⟨X1 ++ [x],X2,Y1 ++ [y],Y2,by simp,by simp,by simp;omega,by simp;omega,by simpa using hw⟩
theorem SwapInv.done {A X M Y C:List α} {k:Nat} (h:SwapInv enc w0 wr b n cap A X M Y C k) (hk:X.length = k) (hk2:Y.length = k):RowW enc w0 wr b n cap (A ++ (Y ++ (M ++ (X ++ C)))):=by
 obtain ⟨X1,X2,Y1,Y2,rfl,rfl,h1,h2,h3⟩:=h
 have e1:X2 = []:=List.eq_nil_of_length_eq_zero (by simp at hk;omega)
 have e2:Y2 = []:=List.eq_nil_of_length_eq_zero (by simp at hk2;omega)
 subst e1 e2
 simpa using h3
def RotInv (enc:α→TF × Value) (w0 wr:World) (b n cap:Nat) (A U V C:List α) (m i j:Nat):Prop :=
 ∃ P X Y Q,P.length + A.length + i = m∧X.length = i∧Y.length = j∧P ++ (Y ++ (X ++ Q)) = V ++ U∧(∀ x ∈ X ++ Y,x ∈ U ++ V)∧RowW enc w0 wr b n cap (A ++ (P ++ (X ++ (Y ++ (Q ++ C)))))
theorem RotInv.same {A U V C:List α} {m i:Nat} (h:RotInv enc w0 wr b n cap A U V C m i i) :
 ∃ A' X Y C',RowW enc w0 wr b n cap (A' ++ (X ++ ([] ++ (Y ++ C'))))∧(∀ x ∈ X ++ Y,x ∈ U ++ V)∧A'.length + i = m∧X.length = i∧Y.length = i∧i ≤ m∧(∀ w',RowW enc w0 w' b n cap (A' ++ (Y ++ ([] ++ (X ++ C'))))→RowW enc w0 w' b n cap (A ++ (V ++ (U ++ C)))):=by
 obtain ⟨P,X,Y,Q,h1,h2,h3,h4,h6,h5⟩:=h
 refine ⟨A ++ P,X,Y,Q ++ C,by simpa using h5,h6,by simp;omega,h2,h3,by omega,fun w' hw=>?_⟩
 have e:A ++ (V ++ (U ++ C)) = A ++ P ++ (Y ++ ([] ++ (X ++ (Q ++ C)))):=by
  rw [← List.append_assoc V,← h4];simp
 rw [e];exact hw
theorem setRow_touch (W:World) (g:Nat) (cs:Array Value):TouchB (fun k=>k = g) W (W.setRow g cs):=⟨rfl,rfl,rfl,by simp,fun k _ hk=>setRow_other W g k cs hk⟩
variable {α:Type} {enc:α→TF × Value} {w0 wr w:World} {b n cap:Nat} {d:List α} {S:α→Prop} {c:α→α→Int}
def uniqP (c:α→α→Int) (d:List α):Nat→List α
 | 0=>[]
 | 1=>d.take 1
 | k + 2=>uniqP c d (k + 1) ++ (match d[k + 1]?,d[k]? with | some x,some y=>if c x y = 0 then [] else [x] | _,_=>[])
theorem uniqP_keep {k:Nat} {x y:α} (h1:d[k + 1]? = some x) (h2:d[k]? = some y) (h:c x y ≠ 0):uniqP c d (k + 2) = uniqP c d (k + 1) ++ [x]:=by
 show uniqP c d (k + 1) ++ _ = _
 rw [h1,h2];simp [h]
theorem uniqP_skip {k:Nat} {x y:α} (h1:d[k + 1]? = some x) (h2:d[k]? = some y) (h:c x y = 0):uniqP c d (k + 2) = uniqP c d (k + 1):=by
 show uniqP c d (k + 1) ++ _ = _
 rw [h1,h2];simp [h]
def CInv (c:α→α→Int) (enc:α→TF × Value) (w0 wr:World) (b n cap:Nat) (d:List α) (k i:Nat):Prop :=
 ∃ Q,RowW enc w0 wr b n cap Q∧Q.take k = uniqP c d i∧Q.drop (i - 1) = d.drop (i - 1)∧(uniqP c d i).length = k
theorem CInv.elt {k i:Nat} (h:CInv c enc w0 wr b n cap d k i) (hi:1 ≤ i) (hin:i < d.length) :
 ∃ x y,d[i]? = some x∧d[i - 1]? = some y∧Cells wr b (i * 9) (enc x).1 (enc x).2∧Cells wr b ((i - 1) * 9) (enc y).1 (enc y).2∧(∀ o,wr.frozen? ⟨b,o,none⟩ = false)∧b < wr.heap.size∧TouchB (fun k=>k = b) w0 wr:=by
 obtain ⟨Q,h1,h2,h3,h4⟩:=h
 have hg:∀ j,i - 1 ≤ j→Q[j]? = d[j]?:=fun j hj=>by
  have:=congrArg (fun l=>l[j - (i - 1)]?) h3
  simp only [List.getElem?_drop] at this
  rwa [show i - 1 + (j - (i - 1)) = j by omega] at this
 have e1:=List.getElem?_eq_getElem hin
 have e2:=List.getElem?_eq_getElem (l:=d) (i:=i - 1) (by omega)
 have q1:=(hg i (by omega)).trans e1
 have q2:=(hg (i - 1) (by omega)).trans e2
 have cg:∀ {j:Nat} {x:α},Q[j]? = some x→Cells wr b (j * 9) (enc x).1 (enc x).2:=fun {j x} hj=>by
  obtain ⟨a1,a2⟩:=List.getElem?_eq_some_iff.1 hj
  have:=h1.cells j a1
  rwa [a2] at this
 exact ⟨_,_,e1,e2,cg q1,cg q2,fun o=>h1.frozen o,h1.lt,h1.touch⟩
theorem CInv.below {k i:Nat} {w':World} (h:CInv c enc w0 wr b n cap d k i) (hb:Below wr.heap.size wr w'):CInv c enc w0 w' b n cap d k i:=by
 obtain ⟨Q,h1,h2⟩:=h
 exact ⟨Q,h1.below hb h1.touch.size,h2⟩
theorem CInv.skip {k i:Nat} {x y:α} (h:CInv c enc w0 wr b n cap d k i) (hi:1 ≤ i) (hx:d[i]? = some x) (hy:d[i - 1]? = some y) (hc:c x y = 0):CInv c enc w0 wr b n cap d k (i + 1):=by
 obtain ⟨j,rfl⟩:∃ j,i = j + 1:=⟨i - 1,by omega⟩
 obtain ⟨Q,h1,h2,h3,h4⟩:=h
 have e:=uniqP_skip (c:=c) hx hy hc
 refine ⟨Q,h1,by rw [e];exact h2,?_,by rw [e];exact h4⟩
 have:=congrArg (List.drop 1) h3
 simpa [List.drop_drop] using this
theorem CInv.keep {k i:Nat} {x y:α} (h:CInv c enc w0 wr b n cap d k i) (hi:1 ≤ i) (hki:k < i) (hx:d[i]? = some x) (hy:d[i - 1]? = some y) (hc:c x y ≠ 0):CInv c enc w0 (set9 wr b (k * 9) (enc x).1 (enc x).2) b n cap d (k + 1) (i + 1):=by
 obtain ⟨j,rfl⟩:∃ j,i = j + 1:=⟨i - 1,by omega⟩
 obtain ⟨Q,h1,h2,h3,h4⟩:=h
 have hl:=congrArg List.length h3
 simp at hl
 have hjd:=(List.getElem?_eq_some_iff.1 hx).1
 have e:=uniqP_keep (c:=c) hx hy hc
 refine ⟨Q.set k x,h1.set k (by omega) x,?_,?_,by rw [e];simp [h4]⟩
 ·rw [e,← h2,List.take_add_one,List.take_set_of_le (Nat.le_refl _),List.getElem?_set_self (by omega)]
  rfl
 ·rw [List.drop_set_of_lt (by omega)]
  have:=congrArg (List.drop 1) h3
  simpa [List.drop_drop] using this
theorem CInv.clear {k:Nat} (h:CInv c enc w0 wr b n cap d k n) (hn:n = d.length) (hkn:k < n):∃ cur,wr.heap[b]? = some (.cells cur 24 (0,0))∧k * 9 + (n - k) * 9 ≤ cur.size∧k ≤ cap∧n ≤ cap ∧
 (TouchB (fun k=>k = b) w0 (wr.setRow b (cur.toList.take (k * 9) ++ flatR (List.replicate (n - k) (zeroF,nilV)) ++ cur.toList.drop (k * 9 + (n - k) * 9)).toArray)∧(wr.setRow b (cur.toList.take (k * 9) ++ flatR (List.replicate (n - k) (zeroF,nilV)) ++ cur.toList.drop (k * 9 + (n - k) * 9)).toArray).ownsRow 0 24 9 (.slice (some ⟨b,0,none⟩) n cap) n (flatR ((uniqP c d n).map enc ++ List.replicate (n - k) (zeroF,nilV)))):=by
 obtain ⟨Q,h1,h2,h3,h4⟩:=h
 have hQ:=h1.len
 rcases h1.own.2 with ⟨h',_⟩ | ⟨g',cap',cur,h',hbg,hg,hc1,hm,hs,ht⟩
 ·simp at h'
 ·simp only [Value.slice.injEq,Option.some.injEq,Addr.mk.injEq,and_true,true_and] at h'
  obtain ⟨rfl,rfl⟩:=h'
  refine ⟨cur,hg,by omega,by omega,hc1,(h1.touch.trans (setRow_touch _ _ _) (fun _ _ e=>e)),?_,?_⟩
  ·rw [flatR_len];simp;omega
  ·have hlt:b < wr.heap.size:=h1.lt
   refine .inr ⟨b,cap,_,rfl,Nat.zero_le _,setRow_heap wr b cur _ 24 (0,0) hg,hc1,hm,?_,?_⟩
   ·have hl:=flatR_len (List.replicate (n - k) (zeroF,nilV))
    simp only [List.length_replicate] at hl
    simp [hl,hs];omega
   ·have ek:(flatR (Q.map enc)).take (k * 9) = flatR ((uniqP c d n).map enc):=by
     rw [← h2,List.map_take]
     have:flatR (Q.map enc) = flatR ((Q.map enc).take k) ++ flatR ((Q.map enc).drop k):=by rw [← flatR_append,List.take_append_drop]
     rw [this,List.take_append_of_le_length (by rw [flatR_len];simp;omega),List.take_of_length_le (by rw [flatR_len];simp;omega)]
    have et:cur.toList.take (k * 9) = flatR ((uniqP c d n).map enc):=by
     rw [← ek,← ht,List.take_take,Nat.min_eq_left (by omega)]
    rw [et,flatR_append]
    have hl:=flatR_len (List.replicate (n - k) (zeroF,nilV))
    have hl2:=flatR_len ((uniqP c d n).map enc)
    simp only [List.length_replicate,List.length_map] at hl hl2
    rw [List.take_append_of_le_length (by simp [hl,hl2,h4];omega),List.take_of_length_le (by simp [hl,hl2,h4];omega)]
theorem CInv.frozen {k i:Nat} (h:CInv c enc w0 wr b n cap d k i) (o:Nat):wr.frozen? ⟨b,o,none⟩ = false:=by
 obtain ⟨Q,h1,_⟩:=h
 exact h1.frozen o
def RPost {n:Nat} (l:List (Tm (n + 1))) (w:World) (e:Ending) (w':World):Prop:=∃ p c,e = .returned (.slice p l.length c)∧ItemsAt w' w'.heap.size (n + 1) (.slice p l.length c) l∧Below w.heap.size w w'
def RPost2 {n:Nat} (l:List (Tm (n + 1))) (w W:World) (e:Ending) (w':World):Prop:=∃ p c,e = .returned (.slice p l.length c)∧ItemsAt w' w'.heap.size (n + 1) (.slice p l.length c) l∧Below W.heap.size W w'∧Below w.heap.size w w'
theorem RPost.on {n:Nat} {l:List (Tm (n + 1))} {w W w':World} {e:Ending} (hb:Below w.heap.size w W) (h:RPost l W e w'):RPost2 l w W e w':=by
 obtain ⟨p,c,h1,h2,h3⟩:=h
 exact ⟨p,c,h1,h2,h3,hb.trans (h3.mono hb.size)⟩
theorem mrg_left {n:Nat} (a:Tm (n + 1)) (A:List (Tm (n + 1))) (b:Tm (n + 1)) (B:List (Tm (n + 1))) (h:cmpV a b ≤ 0):(a :: A).merge (b :: B) (leB cmpV) = a :: A.merge (b :: B) (leB cmpV):=by
 rw [List.cons_merge_cons,if_pos (by unfold leB;simpa using h)]
theorem mrg_right {n:Nat} (a:Tm (n + 1)) (A:List (Tm (n + 1))) (b:Tm (n + 1)) (B:List (Tm (n + 1))) (h:¬ cmpV a b ≤ 0):(a :: A).merge (b :: B) (leB cmpV) = b :: (a :: A).merge B (leB cmpV):=by
 rw [List.cons_merge_cons,if_neg (by unfold leB;simpa using h)]
def MInv {n:Nat} (A B T O:List (Tm (n + 1))) (i k:Nat):Prop:=O ++ (A.drop i).merge (B.drop k) (leB cmpV) = T∧O.length = i + k
theorem MInv.left {n:Nat} {A B T O:List (Tm (n + 1))} {i k:Nat} (h:MInv A B T O i k) (hi:i < A.length) (hk:(hk:k < B.length)→cmpV A[i] B[k] ≤ 0) (hkl:k ≤ B.length):MInv A B T (O ++ [A[i]]) (i + 1) k:=by
 obtain ⟨h1,h2⟩:=h
 refine ⟨?_,by simp;omega⟩
 rw [← h1,List.drop_eq_getElem_cons hi]
 by_cases hb:k < B.length
 ·rw [List.drop_eq_getElem_cons hb,mrg_left _ _ _ _ (hk hb)];simp
 ·rw [List.drop_eq_nil_of_le (by omega:B.length ≤ k),List.merge_right,List.merge_right];simp
theorem MInv.right {n:Nat} {A B T O:List (Tm (n + 1))} {i k:Nat} (h:MInv A B T O i k) (hk:k < B.length) (hi:(hi:i < A.length)→¬ cmpV A[i] B[k] ≤ 0) (hil:i ≤ A.length):MInv A B T (O ++ [B[k]]) i (k + 1):=by
 obtain ⟨h1,h2⟩:=h
 refine ⟨?_,by simp;omega⟩
 rw [← h1,List.drop_eq_getElem_cons hk]
 by_cases ha:i < A.length
 ·rw [List.drop_eq_getElem_cons ha,mrg_right _ _ _ _ (hi ha)];simp
 ·rw [List.drop_eq_nil_of_le (by omega:A.length ≤ i),List.nil_merge,List.nil_merge];simp
theorem MInv.done {n:Nat} {A B T O:List (Tm (n + 1))} (h:MInv A B T O A.length B.length):O = T:=by
 obtain ⟨h1,h2⟩:=h
 rw [List.drop_length,List.drop_length,List.nil_merge,List.append_nil] at h1
 exact h1
theorem ItemsAt.elt {n:Nat} {w:World} {B g o c:Nat} {l:List (Tm (n + 1))} (h:ItemsAt w B (n + 1) (.slice (some ⟨g,o,none⟩) l.length c) l) (i:Nat) (hi:i < l.length):∃ t x q m d,l[i]? = some t∧t.f = x∧Cells w g (o + i * 9) x (.slice q m d)∧ItemsAt w B n (.slice q m d) t.items:=by
 obtain ⟨p,c',e,h1,h2,h3⟩:=h
 simp only [Value.slice.injEq,true_and] at e
 obtain ⟨rfl,rfl⟩:=e
 obtain ⟨g',o',e,hg,hc⟩:=h3 (by intro e;subst e;simp at hi)
 simp only [Option.some.injEq,Addr.mk.injEq,and_true] at e
 obtain ⟨rfl,rfl⟩:=e
 obtain ⟨u,hu1,hu2⟩:=hc i hi
 obtain ⟨q,d,rfl,_⟩:=hu2.shape
 exact ⟨l[i],l[i].f,q,_,d,List.getElem?_eq_getElem hi,rfl,hu1,hu2⟩
end Go.Proofs.YtfbggmbmgohiiaaGreat.tm
namespace Go.Proofs.YtfbggmbmgohiiaaGreat.tmt
open Go.RowKit mem names tm
def Ty24 (w:World) (g:Nat):Prop:=∃ c f,w.heap[g]? = some (.cells c 24 f)
def ItemsT (Z:Nat) (w:World) (B:Nat) (n:Nat) (v:Value) (l:List (Tm n)):Prop:=ItemsIn w (fun g=>g < B∧(g < Z∨Ty24 w g)) n v l
theorem ItemsT.A {Z:Nat} {w:World} {B n:Nat} {v:Value} {l:List (Tm n)} (h:ItemsT Z w B n v l):ItemsAt w B n v l:=ItemsIn.toAt (fun g hg=>hg.1) h
theorem ItemsT.of {w:World} {B n:Nat} {v:Value} {l:List (Tm n)} (h:ItemsAt w B n v l):ItemsT B w B n v l:=ItemsIn.mono (fun _ _=>rfl) (fun g hg=>⟨hg,.inl hg⟩) h.toIn
theorem ItemsT.shape {Z:Nat} {w:World} {B n:Nat} {v:Value} {l:List (Tm n)} (h:ItemsT Z w B n v l):∃ p c,v = .slice p l.length c∧l.length ≤ c∧c ≤ maxLen:=h.A.shape
theorem ItemsT.keep {Z:Nat} {w w':World} {B n:Nat} {v:Value} {l:List (Tm n)} (h:ItemsT Z w B n v l) (hs:∀ g,g < B→(g < Z∨Ty24 w g)→w'.heap[g]? = w.heap[g]?):ItemsT Z w' B n v l :=
 ItemsIn.mono (w:=w) (fun g hg=>hs g hg.1 hg.2) (fun g hg=>⟨hg.1,hg.2.elim .inl (fun ⟨c,f,e⟩=>.inr ⟨c,f,(hs g hg.1 hg.2).trans e⟩)⟩) h
theorem ItemsT.same {Z:Nat} {w w':World} {B n:Nat} {v:Value} {l:List (Tm n)} (h:ItemsT Z w B n v l) (hs:∀ g,g < B→w'.heap[g]? = w.heap[g]?):ItemsT Z w' B n v l:=h.keep (fun g hg _=>hs g hg)
theorem ItemsT.below {Z:Nat} {w w':World} {B B':Nat} {n:Nat} {v:Value} {l:List (Tm n)} (h:ItemsT Z w B n v l) (hb:Below B' w w') (hB:B ≤ B'):ItemsT Z w' B n v l:=h.same fun g hg=>hb.block g (by omega)
theorem ItemsT.more {Z:Nat} {w:World} {B B':Nat} {n:Nat} {v:Value} {l:List (Tm n)} (h:ItemsT Z w B n v l) (hB:B ≤ B'):ItemsT Z w B' n v l:=ItemsIn.mono (fun _ _=>rfl) (fun g hg=>⟨by omega,hg.2⟩) h
theorem ItemsT.nil_any {Z:Nat} {w:World} {B n c:Nat} {p:Option Addr} (hc:c ≤ maxLen):ItemsT Z w B n (.slice p 0 c) ([]:List (Tm n)):=ItemsIn.nil_any hc
theorem ItemsT.at_ {Z:Nat} {w:World} {B n:Nat} {v:Value} {l:List (Tm (n + 1))} (h:ItemsT Z w B (n + 1) v l) (hne:l ≠ []):∃ g o c,v = .slice (some ⟨g,o,none⟩) l.length c∧l.length ≤ c∧c ≤ maxLen∧g < B ∧
 ∀ j,(h:j < l.length)→∃ u,Cells w g (o + j * 9) (l[j]).f u∧ItemsT Z w B n u (l[j]).items:=by
 obtain ⟨p,c,e,h1,h2,h3⟩:=h
 obtain ⟨g,o,rfl,hg,hc⟩:=h3 hne
 exact ⟨g,o,c,e,h1,h2,hg.1,hc⟩
variable {n:Nat} {w w':World} {B Z:Nat}
theorem ItemsT.rows {l:List (Tm (n + 1))} {g o c:Nat} (h:ItemsT Z w B (n + 1) (.slice (some ⟨g,o,none⟩) l.length c) l):∃ rs:List (TF × Value),rs.length = l.length∧(∀ j,(h1:j < rs.length)→(h2:j < l.length)→rs[j].1 = l[j].f∧ItemsT Z w B n rs[j].2 l[j].items) ∧
 (∀ j u,(flatR rs)[j]? = some u→w.cell? ((⟨g,o,none⟩:Addr).add j) = some u)∧∀ u ∈ flatR rs,u.oneCell' = true:=by
 obtain ⟨p,c',e,h1,h2,h3⟩:=h
 simp only [Value.slice.injEq,true_and] at e
 obtain ⟨rfl,rfl⟩:=e
 have key:∀ k,k ≤ l.length→∃ rs:List (TF × Value),rs.length = k∧∀ j,(h1:j < rs.length)→(h2:j < l.length)→rs[j].1 = l[j].f∧ItemsT Z w B n rs[j].2 l[j].items∧Cells w g (o + j * 9) rs[j].1 rs[j].2:=by
  intro k
  induction k with
  | zero=>intro _;exact ⟨[],rfl,fun j h=>by simp at h⟩
  | succ k ih =>
   intro hk
   obtain ⟨rs,hl,hr⟩:=ih (by omega)
   obtain ⟨g',o',e,hg,hc⟩:=h3 (by intro e;subst e;simp at hk)
   simp only [Option.some.injEq,Addr.mk.injEq,and_true] at e
   obtain ⟨rfl,rfl⟩:=e
   obtain ⟨u,hu1,hu2⟩:=hc k (by omega)
   refine ⟨rs ++ [((l[k]'(by omega)).f,u)],by simp [hl],fun j h1 h2=>?_⟩
   by_cases hj:j < rs.length
   ·rw [List.getElem_append_left hj];exact hr j hj h2
   ·have:j = k:=by simp at h1;omega
    subst this
    rw [List.getElem_append_right (by omega)]
    simp only [hl,Nat.sub_self,List.getElem_cons_zero]
    first | exact ⟨rfl,hu2,hu1⟩ | exact ⟨trivial,hu2,hu1⟩
 obtain ⟨rs,hl,hr⟩:=key l.length (Nat.le_refl _)
 refine ⟨rs,hl,fun j h1 h2=>⟨(hr j h1 h2).1,(hr j h1 h2).2.1⟩,fun j u hj=>?_,fun u hu=>?_⟩
 ·rw [Addr.add_lit]
  have hjl:j < (flatR rs).length:=(List.getElem?_eq_some_iff.1 hj).1
  rw [flatR_len] at hjl
  have hq:j / 9 < rs.length:=by omega
  have:=(hr (j / 9) hq (by omega)).2.2.all (j % 9) (Nat.mod_lt _ (by omega))
  rw [← flatR_get rs (j / 9) hq (j % 9) (Nat.mod_lt _ (by omega))] at this
  rw [show j / 9 * 9 + j % 9 = j by omega,show o + j / 9 * 9 + j % 9 = o + j by omega] at this
  rw [this,hj]
 ·unfold flatR at hu
  rw [List.mem_flatMap] at hu
  obtain ⟨r,hr1,hr2⟩:=hu
  obtain ⟨j,hj,rfl⟩:=List.getElem_of_mem hr1
  obtain ⟨_,hi,_⟩:=hr j hj (by omega)
  obtain ⟨q,c2,e,_⟩:=hi.shape
  rw [e] at hr2
  exact nine_one _ _ _ _ u hr2
def RRowT {n:Nat} (Z:Nat) (wr:World) (B base:Nat) (v:Value) (rs:List (TF × Value)) (O:List (Tm (n + 1))):Prop :=
 wr.ownsRow base 24 9 v O.length (flatR rs)∧rs.length = O.length∧∀ j,(h1:j < rs.length)→(h2:j < O.length)→rs[j].1 = O[j].f∧ItemsT Z wr B n rs[j].2 O[j].items
theorem RRowT.nil (wr:World) (B base:Nat):RRowT (n:=n) Z wr B base (.slice none 0 0) [] []:=⟨World.ownsRow_nil _ _ _ _,rfl,fun j h=>by simp at h⟩
theorem RRowT.items {wr:World} {B base:Nat} {v:Value} {rs:List (TF × Value)} {O:List (Tm (n + 1))} (h:RRowT Z wr B base v rs O) (hB:B ≤ wr.heap.size):ItemsT Z wr wr.heap.size (n + 1) v O:=by
 obtain ⟨h1,h2,h3⟩:=h
 rcases h1.2 with ⟨rfl,h0⟩ | ⟨g,cap,cur,rfl,hbg,hg,hc,hm,hs,ht⟩
 ·have:O = []:=List.eq_nil_of_length_eq_zero h0
  subst this
  exact ItemsT.nil_any (by unfold maxLen;omega)
 ·refine ⟨_,_,rfl,hc,hm,fun _=>⟨g,0,rfl,⟨(Array.getElem?_eq_some_iff.1 hg).1,.inr ⟨_,_,hg⟩⟩,fun j hj=>?_⟩⟩
  have hj':j < rs.length:=by omega
  have:=row_cells h1 (by omega) j hj'
  refine ⟨rs[j].2,?_,(h3 j hj' hj).2.more hB⟩
  rw [Nat.zero_add,← (h3 j hj' hj).1]
  exact this
theorem RRowT.below {wr w':World} {B base:Nat} {v:Value} {rs:List (TF × Value)} {O:List (Tm (n + 1))} (h:RRowT Z wr B base v rs O) (hb:Below wr.heap.size wr w') (hB:B ≤ wr.heap.size):RRowT Z w' B base v rs O:=by
 obtain ⟨h1,h2,h3⟩:=h
 refine ⟨row_same h1 (fun k hk=>hb.block k ?_),h2,fun j a b=>⟨(h3 j a b).1,(h3 j a b).2.below hb hB⟩⟩
 rcases h1.2 with ⟨rfl,h0⟩ | ⟨g,cap,cur,rfl,hbg,hg,_⟩
 ·simp [Value.ownBlock] at hk
 ·simp [Value.ownBlock] at hk
  subst hk
  exact (Array.getElem?_eq_some_iff.1 hg).1
theorem RRowT.push {wr w':World} {B base:Nat} {v v':Value} {rs rs':List (TF × Value)} {O O':List (Tm (n + 1))} (h:RRowT Z wr B base v rs O) (hl:rs'.length = O'.length) (h':∀ j,(h1:j < rs'.length)→(h2:j < O'.length)→rs'[j].1 = O'[j].f∧ItemsT Z wr B n rs'[j].2 O'[j].items)
 (hown:w'.ownsRow base 24 9 v' (O.length + O'.length) (flatR rs ++ flatR rs')) (hg:wr.grownBy w' v.ownBlock) (hv:∀ k,v.ownBlock = some k→B ≤ k) (hB:B ≤ wr.heap.size):RRowT Z w' B base v' (rs ++ rs') (O ++ O'):=by
 obtain ⟨h1,h2,h3⟩:=h
 have hs:∀ g,g < B→w'.heap[g]? = wr.heap[g]?:=fun g hg'=>hg.block g (by omega) (fun e=>by have:=hv g e.symm;omega)
 refine ⟨by rw [List.length_append,flatR_append];exact hown,by simp [h2,hl],fun j a b=>?_⟩
 by_cases hj:j < rs.length
 ·rw [List.getElem_append_left hj,List.getElem_append_left (by omega)]
  exact ⟨(h3 j hj (by omega)).1,(h3 j hj (by omega)).2.same hs⟩
 ·rw [List.getElem_append_right (by omega),List.getElem_append_right (by omega)]
  have e:j - rs.length = j - O.length:=by omega
  have:=h' (j - O.length) (by simp at a b;omega) (by simp at a b;omega)
  simp only [e]
  exact ⟨this.1,this.2.same hs⟩
theorem RRowT.shape {wr:World} {B base:Nat} {v:Value} {rs:List (TF × Value)} {O:List (Tm (n + 1))} (h:RRowT Z wr B base v rs O):∃ p c,v = .slice p O.length c:=by
 rcases h.1.2 with ⟨rfl,h0⟩ | ⟨g,cap,cur,rfl,_⟩
 ·exact ⟨_,_,by rw [h0]⟩
 ·exact ⟨_,_,rfl⟩
def RPostT {n:Nat} (Z:Nat) (l:List (Tm (n + 1))) (w:World) (e:Ending) (w':World):Prop:=∃ p c,e = .returned (.slice p l.length c)∧ItemsT Z w' w'.heap.size (n + 1) (.slice p l.length c) l∧Below w.heap.size w w'
def RPost2T {n:Nat} (Z:Nat) (l:List (Tm (n + 1))) (w W:World) (e:Ending) (w':World):Prop:=∃ p c,e = .returned (.slice p l.length c)∧ItemsT Z w' w'.heap.size (n + 1) (.slice p l.length c) l∧Below W.heap.size W w'∧Below w.heap.size w w'
theorem RPostT.on {n:Nat} {l:List (Tm (n + 1))} {w W w':World} {e:Ending} (hb:Below w.heap.size w W) (h:RPostT Z l W e w'):RPost2T Z l w W e w':=by
 obtain ⟨p,c,h1,h2,h3⟩:=h
 exact ⟨p,c,h1,h2,h3,hb.trans (h3.mono hb.size)⟩
theorem ItemsT.elt {n:Nat} {w:World} {B g o c:Nat} {l:List (Tm (n + 1))} (h:ItemsT Z w B (n + 1) (.slice (some ⟨g,o,none⟩) l.length c) l) (i:Nat) (hi:i < l.length):∃ t x q m d,l[i]? = some t∧t.f = x∧Cells w g (o + i * 9) x (.slice q m d)∧ItemsT Z w B n (.slice q m d) t.items:=by
 obtain ⟨p,c',e,h1,h2,h3⟩:=h
 simp only [Value.slice.injEq,true_and] at e
 obtain ⟨rfl,rfl⟩:=e
 obtain ⟨g',o',e,hg,hc⟩:=h3 (by intro e;subst e;simp at hi)
 simp only [Option.some.injEq,Addr.mk.injEq,and_true] at e
 obtain ⟨rfl,rfl⟩:=e
 obtain ⟨u,hu1,hu2⟩:=hc i hi
 obtain ⟨q,d,rfl,_⟩:=ItemsT.shape (Z:=Z) (w:=w) (B:=B) hu2
 exact ⟨l[i],l[i].f,q,_,d,List.getElem?_eq_getElem hi,rfl,hu1,hu2⟩
end Go.Proofs.YtfbggmbmgohiiaaGreat.tmt
