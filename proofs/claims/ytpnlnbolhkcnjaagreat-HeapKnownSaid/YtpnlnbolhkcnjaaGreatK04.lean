/- CoC,CoD. No condition beyond theirs. -/
import Derived.Test.YtpnlnbolhkcnjaaGreatK03
set_option linter.unusedSimpArgs false
set_option linter.unusedVariables false
namespace Go.Proofs.YtpnlnbolhkcnjaaGreat.cl
open words
def mov (full:Bool) (w:Int):Bool:=pOk w && (full || !pOld w)
def age (full:Bool) (mk:Int) (d:Int):Bool:=full || pOld d || decide (pIx d < mk)
def lk:List Int→List Int→Int→Int
 | d :: D,p :: I,w=>if d = w then p else lk D I w
 | _,_,w=>w
theorem lk_not:∀ {D I:List Int} {w:Int},w ∉ D→lk D I w = w:=by
 intro D
 induction D with
 | nil=>intro I w _;unfold lk;rfl
 | cons d D ih =>
  intro I w h;cases I with
  | nil=>unfold lk;rfl
  | cons p I =>
   unfold lk;rw [if_neg (fun e=>h (by rw [e];exact List.mem_cons_self)),ih (fun h'=>h (List.mem_cons_of_mem _ h'))]
theorem lk_get:∀ {D I:List Int} {j:Nat} {d p:Int},D.Nodup→D[j]? = some d→I[j]? = some p→lk D I d = p:=by
 intro D
 induction D with
 | nil=>intro I j d p _ h;simp at h
 | cons d0 D ih =>
  intro I j d p hd h1 h2;cases I with
  | nil=>simp at h2
  | cons p0 I =>
   unfold lk;cases j with
   | zero =>
    simp at h1 h2;rw [if_pos h1,h2]
   | succ j =>
    rw [List.getElem?_cons_succ] at h1 h2;have hm:=List.mem_of_getElem? h1;rw [if_neg (fun e=>(List.nodup_cons.1 hd).1 (by rw [e];exact hm))];exact ih (List.nodup_cons.1 hd).2 h1 h2
theorem lk_app:∀ {D I:List Int} {w p v:Int},D.length = I.length→v ≠ w→lk (D ++ [w]) (I ++ [p]) v = lk D I v:=by
 intro D
 induction D with
 | nil =>
  intro I w p v hl hv;cases I with
  | nil=>simp [lk,Ne.symm hv]
  | cons _ _=>simp at hl
 | cons d0 D ih =>
  intro I w p v hl hv;cases I with
  | nil=>simp at hl
  | cons p0 I =>
   rw [List.cons_append,List.cons_append];unfold lk;rw [ih (by simpa using hl) hv]
theorem lk_mem {D I:List Int} {w:Int} (hl:D.length = I.length) (hd:D.Nodup) (hw:w ∈ D):∃ (j:Nat) (p:Int),D[j]? = some w∧I[j]? = some p∧lk D I w = p:=by
 obtain ⟨j,hj⟩:=List.getElem?_of_mem hw;have h1:=(List.getElem?_eq_some_iff.1 hj).1;have h2:I[j]? = some (I[j]'(by omega)):=List.getElem?_eq_getElem _;exact ⟨j,_,hj,h2,lk_get hd hj h2⟩
inductive Rc (B:Bk) (roots:List Int):Int→Prop
 | root {w:Int}:w ∈ roots→pOk w = true→Rc B roots w
 | step {w v:Int}:Rc B roots w→v ∈ folB B w→pOk v = true→Rc B roots v
def Bk.push (S:Bk) (b:Bool) (x:List Int):Bk:=if b then ⟨S.y,S.o ++ [x]⟩ else ⟨S.y ++ [x],S.o⟩
def Bk.up (S:Bk) (b:Bool) (i k:Nat) (v:Int):Bk:=if b then ⟨S.y,upd S.o i k v⟩ else ⟨upd S.y i k v,S.o⟩
theorem push_s (S:Bk) (b c:Bool) (x:List Int):(S.push b x).s c = if c = b then S.s c ++ [x] else S.s c:=by cases b <;> cases c <;> rfl
theorem up_s (S:Bk) (b c:Bool) (i k:Nat) (v:Int):(S.up b i k v).s c = if c = b then upd (S.s c) i k v else S.s c:=by cases b <;> cases c <;> rfl
structure Inv (B:Bk) (mk:Int) (full:Bool) (base:List (List Int)) (roots:List Int) (S:Bk) (D I:List Int) (i k:Nat):Prop where
 len:D.length = I.length
 nd:D.Nodup
 ndI:I.Nodup
 ix:i ≤ D.length∧(i = D.length→k = 0)
 src:∀ d ∈ D,(∃ x,Pt B d x)∧mov full d = true∧0 ≤ d∧Rc B roots d
 cp:∀ j d p,D[j]? = some d→I[j]? = some p→∃ x',Pt S p x'∧0 ≤ p∧pOld p = age full mk d∧x'.length = (ob B d).length∧(x'.headD 0 % 4 = 0↔(ob B d).headD 0 % 4 = 0) ∧
  ∀ q v,(ob B d)[q]? = some v→x'[q]? = some (if (j < i∨(j = i∧q < k))∧frm (ob B d) ≤ q then lk D I v else v)
 set:∀ j d,D[j]? = some d→∀ q v,(j < i∨(j = i∧q < k))→frm (ob B d) ≤ q→(ob B d)[q]? = some v→mov full v = true→v ∈ D
 new:∀ p ∈ I,pOld p = true→base.flatten.length ≤ (pIx p).toNat
 pre:∃ r,S.o = base ++ r
 all:∀ b pos x',At (S.s b) pos x'→(b = true∧At base pos x')∨∃ p ∈ I,pOld p = b∧(pIx p).toNat = pos
 obj:∀ b,∀ o ∈ S.s b,IsObj o
 sy:S.y.flatten.length = (D.map (fun d=>if age full mk d then 0 else (ob B d).length)).sum
 so:S.o.flatten.length = base.flatten.length + (D.map (fun d=>if age full mk d then (ob B d).length else 0)).sum
theorem Inv.pos {B:Bk} {mk:Int} {full:Bool} {base:List (List Int)} {roots:List Int} {S:Bk} {D I:List Int} {i k:Nat} (h:Inv B mk full base roots S D I i k):S.pos :=
 ⟨fun o ho=>(h.obj false o ho).pos,fun o ho=>(h.obj true o ho).pos⟩
theorem Inv.begin {B:Bk} {mk:Int} {full:Bool} {base:List (List Int)} {roots:List Int} (hb:∀ o ∈ base,IsObj o):Inv B mk full base roots ⟨[],base⟩ [] [] 0 0 where
 len:=rfl
 nd:=List.nodup_nil
 ndI:=List.nodup_nil
 ix:=⟨Nat.le_refl _,fun _=>rfl⟩
 src:=fun d h=>by simp at h
 cp:=fun j d p h=>by simp at h
 set:=fun j d h=>by simp at h
 new:=fun p h=>by simp at h
 pre:=⟨[],by simp⟩
 all:=fun b pos x h=>by
  cases b
  ·exact h.elim
  ·exact .inl ⟨rfl,h⟩
 obj:=fun b o ho=>by
  cases b
  ·simp [Bk.s] at ho
  ·exact hb o ho
 sy:=by simp
 so:=by simp
theorem ptrW_val {t:Int} (ht:t = 1∨t = 2) (b:Bool) {n:Nat} (hn:n < 2147483648):0 ≤ ptrW t b n∧pOk (ptrW t b n) = true∧pOld (ptrW t b n) = b∧(pIx (ptrW t b n)).toNat = n∧ptrW t b n % 4 = t:=by
 have h1:idxOk (n:Int) = true:=by unfold idxOk;exact decide_eq_true ⟨by omega,by omega⟩
 unfold ptrW;rw [if_pos h1];have h2:pOk (8 * (n:Int) + t + (if b then 4 else 0)) = true:=by
  rw [pOk_iff];cases b <;> simp <;> omega
 refine ⟨by cases b <;> simp <;> omega,h2,?_,?_,?_⟩
 ·cases b
  ·exact Bool.eq_false_iff.2 (fun h=>by have:=(pOld_iff h2).1 h;simp at this;omega)
  ·exact (pOld_iff h2).2 (by simp;omega)
 ·rw [pIx_eq h2];cases b <;> simp <;> omega
 ·cases b <;> simp <;> omega
theorem headD_get {x:List Int} (h:0 < x.length):x[0]? = some (x.headD 0):=by
 cases x with
 | nil=>simp at h
 | cons a r=>rfl
theorem Inv.more {B:Bk} {mk:Int} {full:Bool} {base:List (List Int)} {roots:List Int} {S:Bk} {D I:List Int} {i k:Nat} (h:Inv B mk full base roots S D I i k) (hB:B.pos) (hBo:∀ b,∀ o ∈ B.s b,IsObj o) {w:Int} {x:List Int} (hx:Pt B w x) (hm:mov full w = true) (hn:w ∉ D) (w0:0 ≤ w) (hr:Rc B roots w)
 (hlen:(S.s (age full mk w)).flatten.length < 2147483648) {t:Int} (ht:t = 1∨t = 2) (htw:w % 4 = t) :
 Inv B mk full base roots (S.push (age full mk w) x) (D ++ [w]) (I ++ [ptrW t (age full mk w) (S.s (age full mk w)).flatten.length]) i k:=by
 obtain ⟨p0,pk,po,pi,pt⟩:=ptrW_val ht (age full mk w) hlen;generalize hp:ptrW t (age full mk w) ((S.s (age full mk w)).flatten.length:Nat) = p at *;have hxo:=hx.ob hB;have hpI:p ∉ I:=by
  intro hpI;obtain ⟨j,hj⟩:=List.getElem?_of_mem hpI;have hjl:=(List.getElem?_eq_some_iff.1 hj).1;have hl:=h.len;obtain ⟨x',hx',_⟩:=h.cp j _ p (List.getElem?_eq_getElem (by omega)) hj;have hb:=hx'.2.1.bound;have hq:=(h.pos.s _) x' hx'.2.1.mem;rw [po,pi] at hb;omega
 have hlkD:∀ v,v ≠ w→lk (D ++ [w]) (I ++ [p]) v = lk D I v:=fun v hv=>lk_app h.len hv;have hPt:∀ q y,Pt S q y→Pt (S.push (age full mk w) x) q y:=fun q y hq=>⟨hq.1,by rw [push_s];split;exact hq.2.1.left;exact hq.2.1,hq.2.2⟩
 refine ⟨by simp [h.len],?_,?_,⟨by simp;have:=h.ix.1;omega,fun e=>?_⟩,?_,?_,?_,?_,?_,?_,?_,?_,?_⟩
 ·rw [List.nodup_append];exact ⟨h.nd,by simp,fun a ha b hb e=>by simp at hb;subst hb;subst e;exact hn ha⟩
 ·rw [List.nodup_append];exact ⟨h.ndI,by simp,fun a ha b hb e=>by simp at hb;subst hb;subst e;exact hpI ha⟩
 ·have:=h.ix.1;simp at e;omega
 ·intro d hd
  rcases List.mem_append.1 hd with hd | hd
  ·exact h.src d hd
  ·obtain rfl:d = w:=by simpa using hd
   exact ⟨⟨x,hx⟩,hm,w0,hr⟩
 ·intro j d q hj hq
  by_cases hjl:j < D.length
  ·rw [List.getElem?_append_left hjl] at hj;rw [List.getElem?_append_left (by rw [← h.len];exact hjl)] at hq;obtain ⟨x',h1,h2,h3,h4,h4',h5⟩:=h.cp j d q hj hq;refine ⟨x',hPt q x' h1,h2,h3,h4,h4',fun r v hv=>?_⟩;rw [h5 r v hv]
   split
   ·rename_i hc
    by_cases hvw:v = w
    ·subst hvw;exact absurd (h.set j d hj r v hc.1 hc.2 hv hm) hn
    ·rw [hlkD v hvw]
   ·rfl
  ·rw [List.getElem?_append_right (by omega)] at hj;rw [List.getElem?_append_right (by have:=h.len;omega)] at hq;have hjD:j = D.length:=by
    have:=(List.getElem?_eq_some_iff.1 hj).1;simp at this;omega
   subst hjD;simp at hj;rw [h.len] at hq;simp at hq;subst hj hq
   refine ⟨x,⟨pk,?_,?_⟩,p0,po,by rw [hxo],by rw [hxo],fun r v hv=>?_⟩
   ·rw [po,pi,push_s,if_pos rfl];exact At.right (At.one.2 ⟨rfl,rfl⟩)
   ·rw [hx.2.2,htw,pt]
   ·rw [hxo] at hv ⊢;rw [hv,if_neg]
    rintro ⟨hc | ⟨hc,hk⟩,_⟩
    ·have:=h.ix.1;omega
    ·have:=h.ix.2 hc.symm;omega
 ·intro j d hj q v hc hf hv hmv
  by_cases hjl:j < D.length
  ·rw [List.getElem?_append_left hjl] at hj;exact List.mem_append_left _ (h.set j d hj q v hc hf hv hmv)
  ·have hjD:j = D.length:=by
    have:=(List.getElem?_eq_some_iff.1 hj).1;simp at this;omega
   rcases hc with hc | ⟨hc,hk⟩
   ·have:=h.ix.1;omega
   ·have:=h.ix.2 (by omega);omega
 ·intro q hq ho
  rcases List.mem_append.1 hq with hq | hq
  ·exact h.new q hq ho
  ·obtain rfl:q = p:=by simpa using hq
   rw [pi];rw [po] at ho;rw [ho];obtain ⟨r,hr⟩:=h.pre;show base.flatten.length ≤ S.o.flatten.length;rw [hr,List.flatten_append,List.length_append];omega
 ·obtain ⟨r,hr⟩:=h.pre
  cases hag:age full mk w
  ·exact ⟨r,hr⟩
  ·exact ⟨r ++ [x],by show S.o ++ [x] = _;rw [hr,List.append_assoc]⟩
 ·intro b pos x' hat;rw [push_s] at hat
  split at hat
  ·rename_i hb
   rcases At.app_iff.1 hat with hat | ⟨h1,h2⟩
   ·rcases h.all b pos x' hat with h' | ⟨q,hq,h1,h2⟩
    ·exact .inl h'
    ·exact .inr ⟨q,List.mem_append_left _ hq,h1,h2⟩
   ·obtain ⟨h3,_⟩:=At.one.1 h2;refine .inr ⟨p,by simp,by rw [po,hb],?_⟩;rw [pi,← hb];omega
  ·rcases h.all b pos x' hat with h' | ⟨q,hq,h1,h2⟩
   ·exact .inl h'
   ·exact .inr ⟨q,List.mem_append_left _ hq,h1,h2⟩
 ·intro b o ho;rw [push_s] at ho
  split at ho
  ·rcases List.mem_append.1 ho with ho | ho
   ·exact h.obj b o ho
   ·obtain rfl:o = x:=by simpa using ho
    exact hBo _ _ hx.2.1.mem
  ·exact h.obj b o ho
 ·rw [List.map_append,List.sum_append,← h.sy]
  cases hag:age full mk w
  ·show (S.y ++ [x]).flatten.length = _;simp [hag,hxo]
  ·show S.y.flatten.length = _;simp [hag]
 ·rw [List.map_append,List.sum_append,← Nat.add_assoc,← h.so]
  cases hag:age full mk w
  ·show S.o.flatten.length = _;simp [hag]
  ·show (S.o ++ [x]).flatten.length = _;simp [hag,hxo]
theorem Inv.start {B:Bk} {mk:Int} {full:Bool} {base:List (List Int)} {roots:List Int} {S:Bk} {D I:List Int} {i:Nat} (h:Inv B mk full base roots S D I i 0) {d:Int} (hd:D[i]? = some d):Inv B mk full base roots S D I i (frm (ob B d)):=by
 have hi:=(List.getElem?_eq_some_iff.1 hd).1
 refine { h with ix:=⟨h.ix.1,fun e=>by omega⟩,cp:=fun j d' p hj hp=>?_,set:=fun j d' hj q v hc hf hv hm=>?_ }
 ·obtain ⟨x',h1,h2,h3,h4,h4',h5⟩:=h.cp j d' p hj hp;refine ⟨x',h1,h2,h3,h4,h4',fun q v hv=>?_⟩;rw [h5 q v hv]
  by_cases hc:j < i
  ·simp [hc]
  ·by_cases he:j = i
   ·subst he;rw [hd] at hj;obtain rfl:=Option.some.inj hj;rw [if_neg (by omega),if_neg (by omega)]
   ·rw [if_neg (by omega),if_neg (by omega)]
 ·rcases hc with hc | ⟨rfl,hc⟩
  ·exact h.set j d' hj q v (.inl hc) hf hv hm
  ·rw [hd] at hj;obtain rfl:=Option.some.inj hj;omega
theorem Inv.next {B:Bk} {mk:Int} {full:Bool} {base:List (List Int)} {roots:List Int} {S:Bk} {D I:List Int} {i k:Nat} (h:Inv B mk full base roots S D I i k) {d:Int} (hd:D[i]? = some d) (hk:(ob B d).length ≤ k):Inv B mk full base roots S D I (i + 1) 0:=by
 have hi:=(List.getElem?_eq_some_iff.1 hd).1
 refine { h with ix:=⟨by omega,fun _=>rfl⟩,cp:=fun j d' p hj hp=>?_,set:=fun j d' hj q v hc hf hv hm=>?_ }
 ·obtain ⟨x',h1,h2,h3,h4,h4',h5⟩:=h.cp j d' p hj hp;refine ⟨x',h1,h2,h3,h4,h4',fun q v hv=>?_⟩;rw [h5 q v hv]
  by_cases he:j = i
  ·subst he;rw [hd] at hj;obtain rfl:=Option.some.inj hj;have hq:=(List.getElem?_eq_some_iff.1 hv).1
   by_cases hf:frm (ob B d) ≤ q
   ·rw [if_pos ⟨by omega,hf⟩,if_pos ⟨by omega,hf⟩]
   ·rw [if_neg (fun h=>hf h.2),if_neg (fun h=>hf h.2)]
  ·by_cases hf:(j < i)∧frm (ob B d') ≤ q
   ·rw [if_pos ⟨by omega,hf.2⟩,if_pos ⟨by omega,hf.2⟩]
   ·rw [if_neg (by omega),if_neg (by omega)]
 ·by_cases he:j = i
  ·subst he;rw [hd] at hj;obtain rfl:=Option.some.inj hj;have hq:=(List.getElem?_eq_some_iff.1 hv).1;exact h.set j d hd q v (.inr ⟨rfl,by omega⟩) hf hv hm
  ·exact h.set j d' hj q v (.inl (by omega)) hf hv hm
theorem frm_head {x y:List Int} (h:0 < x.length) (h':0 < y.length) (hh:x.headD 0 % 4 = 0↔y.headD 0 % 4 = 0) (he:x.headD 0 % 4 = 0→x.headD 0 = y.headD 0) (hl:x.length = y.length):frm x = frm y:=by
 unfold frm
 by_cases h0:x.headD 0 % 4 = 0
 ·rw [← he h0,hl]
 ·rw [if_pos h0,if_pos (fun h=>h0 (hh.2 h))]
theorem frm_pos {x:List Int} (h:x.headD 0 % 4 = 0) (hx:0 < x.length):1 ≤ frm x:=by
 unfold frm;rw [if_neg (by omega)]
 split
 ·omega
 ·split <;> omega
theorem Inv.store {B:Bk} {mk:Int} {full:Bool} {base:List (List Int)} {roots:List Int} {S:Bk} {D I:List Int} {i k:Nat} (h:Inv B mk full base roots S D I i k) (hB:B.pos) {d p v:Int} (hd:D[i]? = some d) (hp:I[i]? = some p) (hf:frm (ob B d) ≤ k) (hv:(ob B d)[k]? = some v) (hm:mov full v = true→v ∈ D) (ht:lk D I v % 4 ≠ 0) :
 Inv B mk full base roots (S.up (pOld p) (pIx p).toNat k (lk D I v)) D I i (k + 1):=by
 have hi:=(List.getElem?_eq_some_iff.1 hd).1;have hk:=(List.getElem?_eq_some_iff.1 hv).1;obtain ⟨x',g1,g2,g3,g4,g4',g5⟩:=h.cp i d p hd hp;have hpos:=h.pos;have hsp:=hpos.s (pOld p);have hx0:0 < x'.length:=hsp _ g1.2.1.mem;have hhd:(x'.set k (lk D I v)).headD 0 % 4 = 0↔x'.headD 0 % 4 = 0:=by
  cases k with
  | zero =>
   have:¬ (ob B d).headD 0 % 4 = 0:=fun h0=>by have:=frm_pos h0 (by omega);omega
   cases x' with
   | nil=>simp at hx0
   | cons a r =>
    have h2:¬ a % 4 = 0:=fun h0=>this (g4'.1 h0);simp [ht,h2]
  | succ k =>
   cases x' with
   | nil=>simp at hx0
   | cons a r=>simp
 have hup:∀ q y,q ≠ p→0 ≤ q→Pt S q y→Pt (S.up (pOld p) (pIx p).toNat k (lk D I v)) q y:=by
  intro q y hne q0 hq;refine ⟨hq.1,?_,hq.2.2⟩;rw [up_s]
  split
  ·rename_i ho;have hq2:=hq.2.1;rw [ho] at hq2 ⊢;refine (upd_at hsp g1.2.1).2 (.inr ⟨fun e=>hne ?_,hq2⟩);exact Pt.inj hpos hq g1 q0 g2 ho e
  ·exact hq.2.1
 refine { h with ix:=⟨h.ix.1,fun e=>by omega⟩,cp:=fun j d' q hj hq=>?_,set:=fun j d' hj q u hc hf' hu hmu=>?_,pre:=?_,all:=fun b pos y hy=>?_,obj:=fun b o ho=>?_,sy:=?_,so:=?_ }
 ·by_cases hji:j = i
  ·subst hji;rw [hd] at hj;rw [hp] at hq;obtain rfl:=Option.some.inj hj;obtain rfl:=Option.some.inj hq
   refine ⟨x'.set k (lk D I v),⟨g1.1,?_,by rw [hhd];exact g1.2.2⟩,g2,g3,by rw [List.length_set,g4],by rw [hhd];exact g4',fun r u hu=>?_⟩
   ·rw [up_s,if_pos rfl];exact (upd_at hsp g1.2.1).2 (.inl ⟨rfl,rfl⟩)
   ·by_cases hrk:r = k
    ·subst hrk;rw [hv] at hu;obtain rfl:=Option.some.inj hu;rw [if_pos ⟨.inr ⟨rfl,by omega⟩,hf⟩,List.getElem?_set_self (by omega)]
    ·rw [List.getElem?_set_ne (fun e=>hrk e.symm),g5 r u hu];congr 1
     by_cases hc:r < k∧frm (ob B d) ≤ r
     ·rw [if_pos ⟨.inr ⟨rfl,hc.1⟩,hc.2⟩,if_pos ⟨.inr ⟨rfl,by omega⟩,hc.2⟩]
     ·rw [if_neg (by omega),if_neg (by omega)]
  ·obtain ⟨y',e1,e2,e3,e4,e4',e5⟩:=h.cp j d' q hj hq;have hqp:q ≠ p:=by
    intro e;subst e;exact hji ((List.getElem?_inj (List.getElem?_eq_some_iff.1 hq).1 h.ndI).1 (hq.trans hp.symm))
   refine ⟨y',hup q y' hqp e2 e1,e2,e3,e4,e4',fun r u hu=>?_⟩;rw [e5 r u hu];congr 1
   by_cases hc:j < i∧frm (ob B d') ≤ r
   ·rw [if_pos ⟨.inl hc.1,hc.2⟩,if_pos ⟨.inl hc.1,hc.2⟩]
   ·rw [if_neg (by omega),if_neg (by omega)]
 ·by_cases hc':j < i∨(j = i∧q < k)
  ·exact h.set j d' hj q u hc' hf' hu hmu
  ·obtain ⟨rfl,rfl⟩:j = i∧q = k:=by omega
   rw [hd] at hj;obtain rfl:=Option.some.inj hj;rw [hv] at hu;obtain rfl:=Option.some.inj hu;exact hm hmu
 ·obtain ⟨r,hr⟩:=h.pre
  cases hop:pOld p
  ·exact ⟨r,hr⟩
  ·show ∃ r,upd S.o _ _ _ = base ++ r;have hnew:=h.new p (List.mem_of_getElem? hp) hop;rw [hr];exact upd_pre (fun o ho=>hpos.2 o (by rw [hr];exact List.mem_append_left _ ho)) hnew r
 ·rw [up_s] at hy
  split at hy
  ·rename_i hb;subst hb
   rcases (upd_at hsp g1.2.1).1 hy with ⟨rfl,rfl⟩ | ⟨hne,hy⟩
   ·exact .inr ⟨p,List.mem_of_getElem? hp,rfl,rfl⟩
   ·exact h.all _ pos y hy
  ·exact h.all b pos y hy
 ·rw [up_s] at ho
  split at ho
  ·rename_i hb;subst hb;exact upd_objs (h.obj _) g1.2.1 hsp hhd (fun hk0=>by subst hk0;intro h0;have:=frm_pos (g4'.1 h0) (by omega);omega) ho
  ·exact h.obj b o ho
 ·rw [← h.sy]
  cases hop:pOld p
  ·show (upd S.y _ _ _).flatten.length = _;have:=upd_flat (k:=k) (v:=lk D I v) hpos.1 (by simpa [hop,Bk.s] using g1.2.1) (by omega);rw [this,List.length_set]
  ·rfl
 ·rw [← h.so]
  cases hop:pOld p
  ·rfl
  ·show (upd S.o _ _ _).flatten.length = _;have:=upd_flat (k:=k) (v:=lk D I v) hpos.2 (by simpa [hop,Bk.s] using g1.2.1) (by omega);rw [this,List.length_set]
theorem tm_ptr {B:Bk} {v:Int} (h:Tm B v) (hp:pOk v = true):∃ x,Pt B v x:=by
 have h1:=(pOk_iff v).1 hp
 rcases h with h | h | h | h
 ·unfold soOk at h;have:=of_decide_eq_true h;omega
 ·unfold aoOk at h;have:=of_decide_eq_true h;omega
 ·omega
 ·exact h
theorem tm_not {B B':Bk} {v:Int} (h:Tm B v) (hp:pOk v = false):Tm B' v:=by
 rcases h with h | h | h | ⟨x,h⟩
 ·exact .inl h
 ·exact .inr (.inl h)
 ·exact .inr (.inr (.inl h))
 ·rw [h.1] at hp;exact Bool.noConfusion hp
theorem tm_tag {B:Bk} {v:Int} (h:Tm B v):v % 4 ≠ 0:=by
 rcases h with h | h | h | ⟨x,h⟩
 ·unfold soOk at h;have:=of_decide_eq_true h;omega
 ·unfold aoOk at h;have:=of_decide_eq_true h;omega
 ·omega
 ·have:=(pOk_iff v).1 h.1;omega
def Nn (B:Bk):Prop:=∀ b,∀ o ∈ B.s b,∀ v ∈ o,0 ≤ v
theorem fol_sub {x:List Int} {v:Int} (h:v ∈ fol x):v ∈ x:=List.mem_of_mem_drop h
theorem ob_pt {B:Bk} (hB:B.pos) {w:Int} (h:∃ x,Pt B w x):Pt B w (ob B w):=by
 obtain ⟨x,hx⟩:=h;rw [hx.ob hB];exact hx
theorem Sh.fol {m:Mm} {B:Bk} (h:Sh m B) (hn:Nn B) {w v:Int} (hw:∃ x,Pt B w x) (w0:0 ≤ w) (hv:v ∈ folB B w):Tm B v∧0 ≤ v∧(pOk v = true→pOld v = false→pOld w = false∧(pIx w < m.at_→pIx v < m.at_)):=by
 have hp:=ob_pt h.pos hw;obtain ⟨h1,h2⟩:=(h.ok _ _ _ hp.2.1).2 v hv;have hb:=hp.2.1.bound;refine ⟨h1,hn _ _ hp.2.1.mem v (fol_sub hv),fun a b=>⟨(h2 a b).1,fun c=>(h2 a b).2 ?_⟩⟩;rw [pIx_eq hp.1] at c ⊢;omega
theorem met_nodup (B:Bk) (roots:List Int):(met B roots).Nodup:=bfs_nodup _ _ _ (fold_nodup List.nodup_nil)
theorem Sh.len {m:Mm} {B:Bk} (h:Sh m B) {l:List Int} (hd:l.Nodup) (hp:∀ w ∈ l,(∃ x,Pt B w x)∧0 ≤ w):l.length ≤ m.y.length + m.o.length:=by
 have:=pts_len h.pos hd (fun w hw=>(hp w hw).2) (fun w hw=>(hp w hw).1);rwa [h.y.1,h.o.1] at this
theorem rc_met {m:Mm} {B:Bk} (h:Sh m B) (hn:Nn B) (ht:m.y.length + m.o.length ≤ 5000) {roots:List Int} (hr:∀ r ∈ roots,Tm B r∧0 ≤ r) {w:Int} (hw:Rc B roots w):w ∈ met B roots:=by
 have hpt:∀ w,Rc B roots w→(∃ x,Pt B w x)∧0 ≤ w:=by
  intro w hw
  induction hw with
  | root h1 h2=>exact ⟨tm_ptr (hr _ h1).1 h2,(hr _ h1).2⟩
  | step h1 h2 h3 ih =>
   obtain ⟨a,b,_⟩:=h.fol hn ih.1 ih.2 h2;exact ⟨tm_ptr a h3,b⟩
 have hcl:=bfs_closed (f:=folB B) (P:=fun w=>(∃ x,Pt B w x)∧0 ≤ w) (N:=5001) (fun w hw v hv hp=>by
  obtain ⟨a,b,_⟩:=h.fol hn hw.1 hw.2 hv
  exact ⟨tm_ptr a hp,b⟩)
  (fun l hd hp=>by have:=h.len hd hp;omega) 5001 0 (roots.foldl metW []) (by omega) (fold_nodup List.nodup_nil)
  (fun w hw=>by
    rcases fold_mem.1 hw with h' | ⟨h1,h2⟩
    ·simp at h'
    ·exact ⟨tm_ptr (hr w h1).1 h2,(hr w h1).2⟩)
  (fun j w hj=>by omega)
 induction hw with
 | root h1 h2 =>
  obtain ⟨t,ht⟩:=bfs_pre (f:=folB B) 5001 0 (roots.foldl metW []);show _ ∈ bfs (folB B) 5001 0 (roots.foldl metW []);rw [ht];exact List.mem_append_left _ (fold_mem.2 (.inr ⟨h1,h2⟩))
 | step h1 h2 h3 ih=>exact hcl _ ih _ h2 h3
structure Done (m:Mm) (B:Bk) (full:Bool) (roots:List Int) (S:Bk) (D I:List Int):Prop where
 sh:Sh m B
 nn:Nn B
 tot:m.y.length + m.o.length ≤ 5000
 rt:∀ r ∈ roots,Tm B r∧0 ≤ r
 inv:Inv B m.at_ full (if full then [] else B.o) roots S D I D.length 0
 st:∀ r ∈ roots,mov full r = true→r ∈ D
def Cl (B:Bk) (full:Bool) (D:List Int) (w:Int):Prop:=(∃ x,Pt B w x)∧0 ≤ w∧(mov full w = true→w ∈ D)
variable {m:Mm} {B:Bk} {full:Bool} {roots:List Int} {S:Bk} {D I:List Int}
theorem Done.cl_root (h:Done m B full roots S D I) {r:Int} (hr:r ∈ roots) (hp:pOk r = true):Cl B full D r:=⟨tm_ptr (h.rt r hr).1 hp,(h.rt r hr).2,h.st r hr⟩
theorem mov_old {w:Int} (hp:pOk w = true) (hm:mov full w = false):full = false∧pOld w = true:=by
 unfold mov at hm;cases full <;> cases ho:pOld w <;> simp [hp,ho] at hm ⊢
theorem Done.cl_fol (h:Done m B full roots S D I) {w v:Int} (hw:Cl B full D w) (hv:v ∈ folB B w) (hp:pOk v = true):Cl B full D v:=by
 obtain ⟨h1,h2,h3⟩:=h.sh.fol h.nn hw.1 hw.2.1 hv;refine ⟨tm_ptr h1 hp,h2,fun hm=>?_⟩;have hpw:=ob_pt h.sh.pos hw.1
 by_cases hmw:mov full w = true
 ·obtain ⟨j,hj⟩:=List.getElem?_of_mem (hw.2.2 hmw);have hjl:=(List.getElem?_eq_some_iff.1 hj).1;obtain ⟨q,hq⟩:=List.getElem?_of_mem hv;unfold folB fol at hq;rw [List.getElem?_drop] at hq;exact h.inv.set j w hj _ v (.inl hjl) (Nat.le_add_right _ _) hq hm
 ·obtain ⟨rfl,ho⟩:=mov_old hpw.1 (by simpa using hmw);unfold mov at hm;have hov:pOld v = false:=by simpa [hp] using hm
  have:=(h3 hp hov).1;rw [ho] at this;exact Bool.noConfusion this
theorem Done.met_cl (h:Done m B full roots S D I):∀ w ∈ met B roots,Cl B full D w:=by
 refine bfs_in (P:=Cl B full D) (fun w hw v hv hp=>h.cl_fol hw hv hp) _ _ _ (fun w hw=>?_)
 rcases fold_mem.1 hw with h' | ⟨h1,h2⟩
 ·simp at h'
 ·exact h.cl_root h1 h2
theorem Done.copy (h:Done m B full roots S D I) {w:Int} (hw:w ∈ D):lk D I w ∈ I∧pOk (lk D I w) = true∧0 ≤ lk D I w∧pOld (lk D I w) = age full m.at_ w∧Pt S (lk D I w) (ob S (lk D I w))∧(ob S (lk D I w)).length = (ob B w).length∧((ob S (lk D I w)).headD 0 % 4 = 0↔(ob B w).headD 0 % 4 = 0)∧∀ q v,(ob B w)[q]? = some v→(ob S (lk D I w))[q]? = some (if frm (ob B w) ≤ q then lk D I v else v):=by
 obtain ⟨j,p,h1,h2,h3⟩:=lk_mem h.inv.len h.inv.nd hw;have hjl:=(List.getElem?_eq_some_iff.1 h1).1;obtain ⟨x',e1,e2,e3,e4,e5,e6⟩:=h.inv.cp j w p h1 h2;rw [h3];have hx:=e1.ob h.inv.pos;rw [hx];refine ⟨List.mem_of_getElem? h2,e1.1,e2,e3,e1,e4,e5,fun q v hv=>?_⟩;rw [e6 q v hv];congr 1
 by_cases hf:frm (ob B w) ≤ q
 ·rw [if_pos ⟨.inl hjl,hf⟩,if_pos hf]
 ·rw [if_neg (fun h=>hf h.2),if_neg hf]
theorem Done.pOk_lk (h:Done m B full roots S D I) (v:Int):pOk (lk D I v) = pOk v:=by
 by_cases hv:v ∈ D
 ·obtain ⟨x,hx⟩:=(h.inv.src v hv).1;rw [(h.copy hv).2.1,hx.1]
 ·rw [lk_not hv]
theorem Done.inj (h:Done m B full roots S D I) {u v:Int} (hu:Cl B full D u) (hv:Cl B full D v) (e:lk D I u = lk D I v):u = v:=by
 have key:∀ a b,a ∈ D→b ∉ D→Cl B full D b→lk D I a = lk D I b→False:=by
  intro a b ha hb hc e;have hpb:=ob_pt h.sh.pos hc.1;have hm:mov full b = false:=by
   cases hmb:mov full b
   ·rfl
   ·exact absurd (hc.2.2 hmb) hb
  obtain ⟨rfl,ho⟩:=mov_old hpb.1 hm;rw [lk_not hb] at e;have h1:=h.copy ha;rw [e] at h1;have h2:=h.inv.new b h1.1 ho;have h3:=hpb.2.1;rw [ho] at h3;have h4:=h3.bound;have h5:=(h.sh.pos.2) _ h3.mem;simp at h2;simp [Bk.s] at h4;omega
 by_cases h1:u ∈ D <;> by_cases h2:v ∈ D
 ·obtain ⟨j,p,a1,a2,a3⟩:=lk_mem h.inv.len h.inv.nd h1;obtain ⟨k,q,b1,b2,b3⟩:=lk_mem h.inv.len h.inv.nd h2;rw [a3,b3] at e;subst e;have:j = k:=(List.getElem?_inj (List.getElem?_eq_some_iff.1 a2).1 h.inv.ndI).1 (a2.trans b2.symm);subst this;exact Option.some.inj (a1.symm.trans b1)
 ·exact (key u v h1 h2 hv e).elim
 ·exact (key v u h2 h1 hu e.symm).elim
 ·rwa [lk_not h1,lk_not h2] at e
theorem Done.stay (h:Done m B full roots S D I) {w:Int} (hw:Cl B full D w) (hn:w ∉ D):full = false∧pOld w = true∧lk D I w = w∧ob S w = ob B w∧Pt S w (ob B w):=by
 have hpw:=ob_pt h.sh.pos hw.1;have hm:mov full w = false:=by
  cases hmb:mov full w
  ·rfl
  ·exact absurd (hw.2.2 hmb) hn
 obtain ⟨rfl,ho⟩:=mov_old hpw.1 hm;have hS:Pt S w (ob B w):=by
  refine ⟨hpw.1,?_,hpw.2.2⟩;have:=hpw.2.1;rw [ho] at this ⊢;obtain ⟨r,hr⟩:=h.inv.pre;simp at hr;show At S.o _ _;rw [hr];exact At.left this
 exact ⟨rfl,ho,lk_not hn,hS.ob h.inv.pos,hS⟩
theorem Done.obj (h:Done m B full roots S D I) {w:Int} (hw:Cl B full D w):Pt S (lk D I w) (ob S (lk D I w))∧0 ≤ lk D I w∧(ob S (lk D I w)).length = (ob B w).length∧((ob S (lk D I w)).headD 0 % 4 = 0↔(ob B w).headD 0 % 4 = 0)∧∀ q v,(ob B w)[q]? = some v→(ob S (lk D I w))[q]? = some (if frm (ob B w) ≤ q then lk D I v else v):=by
 by_cases hd:w ∈ D
 ·obtain ⟨_,_,a,_,b,c,d,e⟩:=h.copy hd;exact ⟨b,a,c,d,e⟩
 ·obtain ⟨rfl,ho,e1,e2,e3⟩:=h.stay hw hd;rw [e1,e2];refine ⟨e3,hw.2.1,rfl,Iff.rfl,fun q v hv=>?_⟩;rw [hv];congr 1
  split
  ·rename_i hq;have hvf:v ∈ folB B w:=by
    unfold folB fol;refine List.mem_of_getElem? (i:=q - frm (ob B w)) ?_;rw [List.getElem?_drop,Nat.add_sub_cancel' hq];exact hv
   by_cases hvd:v ∈ D
   ·have hc:=(h.inv.src v hvd);obtain ⟨x,hx⟩:=hc.1;have hm:=hc.2.1;unfold mov at hm;have hov:pOld v = false:=by simpa [hx.1] using hm
    have:=((h.sh.fol h.nn hw.1 hw.2.1 hvf).2.2 hx.1 hov).1;rw [ho] at this;exact Bool.noConfusion this
   ·rw [lk_not hvd]
  ·rfl
theorem Done.frm (h:Done m B full roots S D I) {w:Int} (hw:Cl B full D w):cl.frm (ob S (lk D I w)) = cl.frm (ob B w):=by
 obtain ⟨h1,_,h2,h3,h4⟩:=h.obj hw;have p1:0 < (ob B w).length:=(h.sh.pos.s _) _ (ob_pt h.sh.pos hw.1).2.1.mem;have p2:0 < (ob S (lk D I w)).length:=by omega
 refine frm_head p2 p1 h3 (fun h0=>?_) h2;have h5:=h4 0 _ (headD_get p1);have h6:=frm_pos (h3.1 h0) p1;rw [if_neg (by omega),headD_get p2] at h5;exact Option.some.inj h5
theorem Done.fol_lk (h:Done m B full roots S D I) {w:Int} (hw:Cl B full D w):folB S (lk D I w) = (folB B w).map (lk D I):=by
 obtain ⟨h1,_,h2,h3,h4⟩:=h.obj hw;unfold folB fol;rw [h.frm hw];refine List.ext_getElem? fun q=>?_;rw [List.getElem?_map,List.getElem?_drop,List.getElem?_drop];cases hv:(ob B w)[cl.frm (ob B w) + q]? with
 | none =>
  have:=List.getElem?_eq_none_iff.1 hv;rw [List.getElem?_eq_none_iff.2 (by omega)];rfl
 | some v =>
  rw [h4 _ v hv,if_pos (by omega)];rfl
theorem Done.met (h:Done m B full roots S D I):cl.met S (roots.map (lk D I)) = (cl.met B roots).map (lk D I):=by
 unfold cl.met;have h0:=fold_map (g:=lk D I) (P:=Cl B full D) (fun u v hu hv e=>h.inj hu hv e) (ws:=roots) (l:=[]) (fun v hv=>by simp at hv) (fun v hv hp=>h.cl_root hv hp) (fun v _=>h.pOk_lk v);rw [List.map_nil] at h0;rw [h0];refine bfs_map (P:=Cl B full D) (fun u v hu hv e=>h.inj hu hv e) (fun w hw v hv hp=>h.cl_fol hw hv hp) (fun w hw v hv=>h.pOk_lk v) (fun w hw=>h.fol_lk hw) _ _ _ (fun w hw=>?_)
 rcases fold_mem.1 hw with h' | ⟨h1,h2⟩
 ·simp at h'
 ·exact h.cl_root h1 h2
theorem Done.tm (h:Done m B full roots S D I) {v:Int} (hv:Tm B v) (hc:pOk v = true→Cl B full D v):Tm S (lk D I v):=by
 by_cases hp:pOk v = true
 ·exact .inr (.inr (.inr ⟨_,(h.obj (hc hp)).1⟩))
 ·have hp:pOk v = false:=by simpa using hp
  have hn:v ∉ D:=fun hd=>by
   obtain ⟨x,hx⟩:=(h.inv.src v hd).1;rw [hx.1] at hp;exact Bool.noConfusion hp
  rw [lk_not hn];exact tm_not hv hp
theorem Done.mem (h:Done m B full roots S D I) (w:Int):w ∈ D↔w ∈ (cl.met B roots).filter (mov full):=by
 rw [List.mem_filter]
 constructor
 ·intro hw;obtain ⟨_,h1,_,h2⟩:=h.inv.src w hw;exact ⟨rc_met h.sh h.nn h.tot h.rt h2,h1⟩
 ·rintro ⟨h1,h2⟩;exact (h.met_cl w h1).2.2 h2
theorem sum_same {f:Int→Nat}:∀ {a b:List Int},a.Nodup→b.Nodup→(∀ x,x ∈ a↔x ∈ b)→(a.map f).sum = (b.map f).sum:=by
 intro a
 induction a with
 | nil =>
  intro b _ _ h;cases b with
  | nil=>rfl
  | cons y b=>exact absurd ((h y).2 List.mem_cons_self) (by simp)
 | cons x a ih =>
  intro b ha hb h;have hx:=(h x).1 List.mem_cons_self;have hp:=(List.perm_cons_erase hx).map f;rw [hp.sum_nat,List.map_cons,List.map_cons,List.sum_cons,List.sum_cons];congr 1;refine ih (List.nodup_cons.1 ha).2 (hb.erase x) (fun y=>?_);rw [List.Nodup.mem_erase_iff hb,← h y,List.mem_cons]
  constructor
  ·intro hy;exact ⟨fun e=>(List.nodup_cons.1 ha).1 (e ▸ hy),.inr hy⟩
  ·rintro ⟨h1,h2 | h2⟩
   ·exact absurd h2 h1
   ·exact h2
theorem sum_filter {f:Int→Nat} {p:Int→Bool}:∀ (l:List Int),((l.filter p).map f).sum = (l.map (fun w=>if p w = true then f w else 0)).sum:=by
 intro l
 induction l with
 | nil=>rfl
 | cons x l ih =>
  rw [List.filter_cons]
  split
  ·rename_i h;rw [List.map_cons,List.map_cons,List.sum_cons,List.sum_cons,ih,if_pos h]
  ·rename_i h;rw [List.map_cons,List.sum_cons,ih,if_neg h,Nat.zero_add]
theorem Done.sum (h:Done m B full roots S D I) (f:Int→Nat):(D.map f).sum = ((cl.met B roots).map (fun w=>if mov full w = true then f w else 0)).sum:=by
 rw [← sum_filter];exact sum_same h.inv.nd ((met_nodup B roots).filter _) h.mem
end Go.Proofs.YtpnlnbolhkcnjaaGreat.cl
