/- CoA,CoB. No condition beyond theirs. -/
import Derived.Test.YtpnlnbolhkcnjaaGreatK02
set_option linter.unusedSimpArgs false
set_option linter.unusedVariables false
namespace Go.Proofs.YtpnlnbolhkcnjaaGreat.cl
open words
def osz (x:Int):Nat:=if x % 4 = 0 then 1 + (hoN x).toNat else 2
def hok (x:Int):Bool:=decide (x % 4 ≠ 0) || hoOk x
def IsObj (o:List Int):Prop:=∃ x r,o = x :: r∧hok x = true∧o.length = osz x
theorem osz_pos (x:Int):0 < osz x:=by unfold osz;split <;> omega
theorem IsObj.pos {o:List Int} (h:IsObj o):0 < o.length:=by
 obtain ⟨x,r,rfl,_,_⟩:=h;simp
def Pos (a:List (List Int)):Prop:=∀ o ∈ a,0 < o.length
theorem Pos.tail {o:List Int} {r:List (List Int)} (h:Pos (o :: r)):Pos r:=fun x hx=>h x (List.mem_cons_of_mem _ hx)
theorem Pos.head {o:List Int} {r:List (List Int)} (h:Pos (o :: r)):0 < o.length:=h o List.mem_cons_self
def At:List (List Int)→Nat→List Int→Prop
 | [],_,_=>False
 | o :: r,i,x=>(i = 0∧x = o)∨(o.length ≤ i∧At r (i - o.length) x)
theorem At.mem:∀ {a:List (List Int)} {i:Nat} {x:List Int},At a i x→x ∈ a:=by
 intro a
 induction a with
 | nil=>intro i x h;exact h.elim
 | cons o r ih =>
  intro i x h
  rcases h with ⟨_,rfl⟩ | ⟨_,h⟩
  ·exact List.mem_cons_self
  ·exact List.mem_cons_of_mem _ (ih h)
theorem At.bound:∀ {a:List (List Int)} {i:Nat} {x:List Int},At a i x→i + x.length ≤ a.flatten.length:=by
 intro a
 induction a with
 | nil=>intro i x h;exact h.elim
 | cons o r ih =>
  intro i x h;rw [List.flatten_cons,List.length_append]
  rcases h with ⟨rfl,rfl⟩ | ⟨h1,h⟩
  ·omega
  ·have:=ih h;omega
theorem At.uniq:∀ {a:List (List Int)},Pos a→∀ {i:Nat} {x y:List Int},At a i x→At a i y→x = y:=by
 intro a
 induction a with
 | nil=>intro _ i x y h;exact h.elim
 | cons o r ih =>
  intro hp i x y h1 h2;have:=hp.head
  rcases h1 with ⟨e1,rfl⟩ | ⟨l1,h1⟩ <;> rcases h2 with ⟨e2,rfl⟩ | ⟨l2,h2⟩
  ·rfl
  ·omega
  ·omega
  ·exact ih hp.tail h1 h2
theorem At.get:∀ {a:List (List Int)} {i:Nat} {x:List Int},At a i x→∀ k,k < x.length→a.flatten[i + k]? = x[k]?:=by
 intro a
 induction a with
 | nil=>intro i x h;exact h.elim
 | cons o r ih =>
  intro i x h k hk;rw [List.flatten_cons]
  rcases h with ⟨rfl,rfl⟩ | ⟨h1,h⟩
  ·rw [Nat.zero_add,List.getElem?_append_left hk]
  ·rw [List.getElem?_append_right (by omega),← ih h k hk];congr 1;omega
theorem At.left {b:List (List Int)}:∀ {a:List (List Int)} {i:Nat} {x:List Int},At a i x→At (a ++ b) i x:=by
 intro a
 induction a with
 | nil=>intro i x h;exact h.elim
 | cons o r ih =>
  intro i x h
  rcases h with h | ⟨h1,h⟩
  ·exact .inl h
  ·exact .inr ⟨h1,ih h⟩
theorem At.app_iff {b:List (List Int)}:∀ {a:List (List Int)} {i:Nat} {x:List Int},At (a ++ b) i x↔At a i x∨(a.flatten.length ≤ i∧At b (i - a.flatten.length) x):=by
 intro a
 induction a with
 | nil=>intro i x;simp [At]
 | cons o r ih =>
  intro i x;rw [List.cons_append,List.flatten_cons,List.length_append];show (i = 0∧x = o)∨(o.length ≤ i∧At (r ++ b) (i - o.length) x)↔((i = 0∧x = o)∨(o.length ≤ i∧At r (i - o.length) x))∨_;rw [ih]
  constructor
  ·rintro (h | ⟨h1,h | ⟨h2,h⟩⟩)
   ·exact .inl (.inl h)
   ·exact .inl (.inr ⟨h1,h⟩)
   ·exact .inr ⟨by omega,by rwa [Nat.sub_sub] at h⟩
  ·rintro ((h | ⟨h1,h⟩) | ⟨h1,h⟩)
   ·exact .inl h
   ·exact .inr ⟨h1,.inl h⟩
   ·exact .inr ⟨by omega,.inr ⟨by omega,by rwa [Nat.sub_sub]⟩⟩
theorem At.right {a b:List (List Int)} {i:Nat} {x:List Int} (h:At b i x):At (a ++ b) (a.flatten.length + i) x :=
 At.app_iff.2 (.inr ⟨by omega,by rwa [Nat.add_sub_cancel_left]⟩)
theorem At.one {o:List Int} {i:Nat} {x:List Int}:At [o] i x↔i = 0∧x = o:=by simp [At]
def marks (a:List (List Int)):List Bool:=a.flatMap (fun o=>true :: List.replicate (o.length - 1) false)
theorem marks_cons (o:List Int) (r:List (List Int)):marks (o :: r) = (true :: List.replicate (o.length - 1) false) ++ marks r:=by unfold marks;rw [List.flatMap_cons]
theorem marks_append (a b:List (List Int)):marks (a ++ b) = marks a ++ marks b:=by unfold marks;rw [List.flatMap_append]
theorem marks_len:∀ {a:List (List Int)},Pos a→(marks a).length = a.flatten.length:=by
 intro a
 induction a with
 | nil=>intro _;rfl
 | cons o r ih =>
  intro hp;have:=hp.head;rw [marks_cons,List.length_append,ih hp.tail,List.flatten_cons,List.length_append,List.length_cons,List.length_replicate];omega
theorem marks_iff:∀ {a:List (List Int)},Pos a→∀ {i:Nat},(marks a)[i]? = some true↔∃ x,At a i x:=by
 intro a
 induction a with
 | nil=>intro _ i;simp [marks,At]
 | cons o r ih =>
  intro hp i;have h0:=hp.head;have hl:(true :: List.replicate (o.length - 1) false).length = o.length:=by simp;omega
  rw [marks_cons]
  by_cases hi:i < o.length
  ·rw [List.getElem?_append_left (by omega)];cases i with
   | zero=>simp [At]
   | succ k =>
    rw [List.getElem?_cons_succ,List.getElem?_replicate,if_pos (by omega)];simp [At];intro x h;omega
  ·rw [List.getElem?_append_right (by omega),hl,ih hp.tail]
   constructor
   ·rintro ⟨x,h⟩;exact ⟨x,.inr ⟨by omega,h⟩⟩
   ·rintro ⟨x,h | ⟨_,h⟩⟩
    ·omega
    ·exact ⟨x,h⟩
def upd:List (List Int)→Nat→Nat→Int→List (List Int)
 | [],_,_,_=>[]
 | o :: r,i,k,v=>if i = 0 then o.set k v :: r else o :: upd r (i - o.length) k v
theorem upd_flat {k:Nat} {v:Int}:∀ {a:List (List Int)},Pos a→∀ {i:Nat} {x:List Int},At a i x→k < x.length→(upd a i k v).flatten = a.flatten.set (i + k) v:=by
 intro a
 induction a with
 | nil=>intro _ i x h;exact h.elim
 | cons o r ih =>
  intro hp i x h hk;have:=hp.head;unfold upd
  rcases h with ⟨rfl,rfl⟩ | ⟨h1,h⟩
  ·rw [if_pos rfl,List.flatten_cons,List.flatten_cons,Nat.zero_add,List.set_append_left _ _ hk]
  ·rw [if_neg (by omega),List.flatten_cons,List.flatten_cons,ih hp.tail h hk,List.set_append_right _ _ (by omega)];congr 2;omega
theorem upd_at {k:Nat} {v:Int}:∀ {a:List (List Int)},Pos a→∀ {i:Nat} {x:List Int},At a i x→∀ {j:Nat} {y:List Int},At (upd a i k v) j y↔(j = i∧y = x.set k v)∨(j ≠ i∧At a j y):=by
 intro a
 induction a with
 | nil=>intro _ i x h;exact h.elim
 | cons o r ih =>
  intro hp i x h j y;have:=hp.head;unfold upd
  rcases h with ⟨rfl,rfl⟩ | ⟨h1,h⟩
  ·rw [if_pos rfl];show (j = 0∧y = x.set k v)∨((x.set k v).length ≤ j∧At r (j - (x.set k v).length) y)↔_∨(j ≠ 0∧((j = 0∧y = x)∨(x.length ≤ j∧At r (j - x.length) y)));rw [List.length_set]
   constructor
   ·rintro (h | ⟨h1,h2⟩)
    ·exact .inl h
    ·exact .inr ⟨by omega,.inr ⟨h1,h2⟩⟩
   ·rintro (h | ⟨h0,h | h⟩)
    ·exact .inl h
    ·exact absurd h.1 h0
    ·exact .inr h
  ·rw [if_neg (by omega)];show (j = 0∧y = o)∨(o.length ≤ j∧At (upd r (i - o.length) k v) (j - o.length) y)↔_∨(j ≠ i∧((j = 0∧y = o)∨(o.length ≤ j∧At r (j - o.length) y)));rw [ih hp.tail h]
   constructor
   ·rintro (⟨rfl,rfl⟩ | ⟨h2,⟨h3,h4⟩ | ⟨h3,h4⟩⟩)
    ·exact .inr ⟨by omega,.inl ⟨rfl,rfl⟩⟩
    ·exact .inl ⟨by omega,h4⟩
    ·exact .inr ⟨by omega,.inr ⟨h2,h4⟩⟩
   ·rintro (⟨rfl,h4⟩ | ⟨h2,⟨rfl,rfl⟩ | ⟨h3,h4⟩⟩)
    ·exact .inr ⟨h1,.inl ⟨rfl,h4⟩⟩
    ·exact .inl ⟨rfl,rfl⟩
    ·exact .inr ⟨h3,.inr ⟨by omega,h4⟩⟩
theorem At.of_mem:∀ {a:List (List Int)} {x:List Int},x ∈ a→∃ i,At a i x:=by
 intro a
 induction a with
 | nil=>intro x h;simp at h
 | cons o r ih =>
  intro x h
  rcases List.mem_cons.1 h with rfl | h
  ·exact ⟨0,.inl ⟨rfl,rfl⟩⟩
  ·obtain ⟨i,hi⟩:=ih h;exact ⟨o.length + i,.inr ⟨by omega,by rwa [Nat.add_sub_cancel_left]⟩⟩
theorem upd_pre {k:Nat} {v:Int}:∀ {b:List (List Int)},Pos b→∀ {i:Nat},b.flatten.length ≤ i→∀ r,∃ r',upd (b ++ r) i k v = b ++ r':=by
 intro b
 induction b with
 | nil=>intro _ i _ r;exact ⟨_,rfl⟩
 | cons o b ih =>
  intro hp i hi r;have:=hp.head;rw [List.flatten_cons,List.length_append] at hi;obtain ⟨r',hr⟩:=ih hp.tail (i:=i - o.length) (by omega) r;refine ⟨r',?_⟩;rw [List.cons_append];unfold upd;rw [if_neg (by omega),hr];rfl
theorem upd_objs {a:List (List Int)} (ha:∀ o ∈ a,IsObj o) {i k:Nat} {x:List Int} {v:Int} (hx:At a i x) (hp:Pos a) (hh:(x.set k v).headD 0 % 4 = 0↔x.headD 0 % 4 = 0) (hk:k = 0→¬ x.headD 0 % 4 = 0) {y:List Int} (hy:y ∈ upd a i k v):IsObj y:=by
 obtain ⟨j,hj⟩:=At.of_mem hy
 rcases (upd_at hp hx).1 hj with ⟨rfl,rfl⟩ | ⟨_,h⟩
 ·obtain ⟨c,r,rfl,hc,hl⟩:=ha x hx.mem;cases k with
  | zero =>
   have h1:=hk rfl;have h2:¬ v % 4 = 0:=fun h=>h1 (hh.1 (by simpa using h));refine ⟨v,r,rfl,by unfold hok;simp [h2],?_⟩;have h3:osz c = 2:=by unfold osz;rw [if_neg (by simpa using h1)]
   have h4:osz v = 2:=by unfold osz;rw [if_neg h2]
   rw [List.set_cons_zero,List.length_cons,h4,← h3,← hl,List.length_cons]
  | succ k=>exact ⟨c,r.set k v,rfl,hc,by rw [List.length_set];exact hl⟩
 ·exact ha y h.mem
def Objs (l:List Int) (a:List (List Int)):Prop:=a.flatten = l∧∀ o ∈ a,IsObj o
theorem Objs.pos {l:List Int} {a:List (List Int)} (h:Objs l a):Pos a:=fun o ho=>(h.2 o ho).pos
theorem objs_prefix:∀ {d a:List (List Int)} {t:List Int},(∀ o ∈ d,IsObj o)→(∀ o ∈ a,IsObj o)→a.flatten = d.flatten ++ t→∃ r,a = d ++ r∧r.flatten = t:=by
 intro d
 induction d with
 | nil=>intro a t _ _ h;exact ⟨a,rfl,by simpa using h⟩
 | cons o d ih =>
  intro a t hd ha h;obtain ⟨x,r,rfl,hx,hl⟩:=hd o List.mem_cons_self;cases a with
  | nil=>simp at h
  | cons o' a =>
   obtain ⟨x',r',rfl,hx',hl'⟩:=ha o' List.mem_cons_self;rw [List.flatten_cons,List.flatten_cons,List.append_assoc] at h;obtain rfl:x' = x:=by simpa using congrArg (·.head?) h
   obtain ⟨e1,e2⟩:=List.append_inj h (by rw [hl,hl']);obtain ⟨q,e3,e4⟩:=ih (fun y hy=>hd y (List.mem_cons_of_mem _ hy)) (fun y hy=>ha y (List.mem_cons_of_mem _ hy)) e2;exact ⟨q,by rw [e1,e3];rfl,e4⟩
theorem Objs.uniq {l:List Int} {a b:List (List Int)} (h1:Objs l a) (h2:Objs l b):a = b:=by
 obtain ⟨r,e1,e2⟩:=objs_prefix (d:=b) (a:=a) (t:=[]) h2.2 h1.2 (by rw [h1.1,h2.1,List.append_nil]);cases r with
 | nil=>rw [e1,List.append_nil]
 | cons o r =>
  have:IsObj o:=h1.2 o (by rw [e1];simp);have h3:=this.pos;simp at e2;rw [e2.1] at h3;simp at h3
def Scn (l:List Int) (i:Nat) (out:List Bool):Prop:=∃ d,Objs (l.take i) d∧i ≤ l.length∧out = marks d ++ List.replicate (l.length - i) false
theorem Scn.zero (l:List Int):Scn l 0 (List.replicate l.length false):=⟨[],⟨by simp,fun _ h=>by simp at h⟩,Nat.zero_le _,by simp [marks]⟩
theorem Scn.len {l:List Int} {i:Nat} {out:List Bool} (h:Scn l i out):out.length = l.length:=by
 obtain ⟨d,h1,h2,rfl⟩:=h;rw [List.length_append,marks_len h1.pos,h1.1,List.length_replicate,List.length_take];omega
theorem Scn.step {l:List Int} {i:Nat} {out:List Bool} {x:Int} (h:Scn l i out) (hx:l[i]? = some x) (ho:hok x = true) (hs:osz x ≤ l.length - i):Scn l (i + osz x) (out.set i true):=by
 obtain ⟨d,h1,h2,rfl⟩:=h;obtain ⟨hi,hxe⟩:=List.getElem?_eq_some_iff.1 hx;have hp:=osz_pos x;have hml:(marks d).length = i:=by rw [marks_len h1.pos,h1.1,List.length_take];omega
 have htk:((l.drop i).take (osz x)).length = osz x:=by rw [List.length_take,List.length_drop];omega
 refine ⟨d ++ [(l.drop i).take (osz x)],⟨?_,?_⟩,by omega,?_⟩
 ·rw [List.flatten_append,h1.1,List.flatten_cons,List.flatten_nil,List.append_nil,List.take_add]
 ·intro o ho'
  rcases List.mem_append.1 ho' with h | h
  ·exact h1.2 o h
  ·obtain rfl:o = (l.drop i).take (osz x):=by simpa using h
   have hd:l.drop i = x :: l.drop (i + 1):=by rw [← hxe,← List.drop_eq_getElem_cons hi]
   obtain ⟨q,hq⟩:∃ q,osz x = q + 1:=⟨osz x - 1,by omega⟩;refine ⟨x,(l.drop (i + 1)).take q,?_,ho,htk⟩;rw [hd,hq,List.take_succ_cons]
 ·rw [marks_append,List.set_append_right _ _ (by omega),hml,Nat.sub_self,List.append_assoc];congr 1;obtain ⟨q,hq⟩:∃ q,l.length - i = osz x + q:=⟨l.length - i - osz x,by omega⟩;obtain ⟨z,hz⟩:∃ z,osz x = z + 1:=⟨osz x - 1,by omega⟩;have e1:l.length - (i + osz x) = q:=by omega
  unfold marks;rw [List.flatMap_cons,List.flatMap_nil,List.append_nil,htk,e1,hq,hz,Nat.add_sub_cancel,show z + 1 + q = (z + q) + 1 by omega,List.replicate_succ,List.set_cons_zero,List.cons_append,← List.replicate_append_replicate]
theorem Scn.fail {l:List Int} {i:Nat} {out:List Bool} {x:Int} (h:Scn l i out) (hx:l[i]? = some x) (hn:hok x = false∨l.length - i < osz x):¬ ∃ a,Objs l a:=by
 rintro ⟨a,ha⟩;obtain ⟨d,h1,h2,rfl⟩:=h;obtain ⟨hi,hxe⟩:=List.getElem?_eq_some_iff.1 hx;obtain ⟨r,e1,e2⟩:=objs_prefix (d:=d) (a:=a) (t:=l.drop i) h1.2 ha.2 (by rw [ha.1,h1.1,List.take_append_drop]);rw [List.drop_eq_getElem_cons hi,hxe] at e2;cases r with
 | nil=>simp at e2
 | cons o r =>
  obtain ⟨y,q,rfl,hy,hl⟩:=ha.2 o (by rw [e1];simp);have e3:=congrArg List.length e2;rw [List.flatten_cons,List.cons_append] at e2;obtain ⟨rfl,_⟩:=List.cons.inj e2
  rcases hn with hn | hn
  ·rw [hn] at hy;exact Bool.noConfusion hy
  ·rw [List.flatten_cons,List.length_append,hl,List.length_cons,List.length_drop] at e3;omega
theorem Scn.done {l:List Int} {i:Nat} {out:List Bool} (h:Scn l i out) (hi:¬ i < l.length):∃ a,Objs l a∧out = marks a:=by
 obtain ⟨d,h1,h2,rfl⟩:=h;obtain rfl:i = l.length:=by omega
 exact ⟨d,by rwa [List.take_length] at h1,by simp⟩
structure Mm where
 y:List Int
 o:List Int
 at_:Int
structure Bk where
 y:List (List Int)
 o:List (List Int)
def Mm.s (m:Mm) (b:Bool):List Int:=if b then m.o else m.y
def Bk.s (B:Bk) (b:Bool):List (List Int):=if b then B.o else B.y
def Bk.pos (B:Bk):Prop:=Pos B.y∧Pos B.o
theorem Bk.pos.s {B:Bk} (h:B.pos) (b:Bool):Pos (B.s b):=by cases b;exact h.1;exact h.2
def Pt (B:Bk) (w:Int) (x:List Int):Prop:=pOk w = true∧At (B.s (pOld w)) (pIx w).toNat x∧(x.headD 0 % 4 = 0↔w % 4 = 2)
def Tm (B:Bk) (w:Int):Prop:=soOk w = true∨aoOk w = true∨w = 11∨∃ x,Pt B w x
def frm (x:List Int):Nat:=if x.headD 0 % 4 ≠ 0 then 0 else if hoK (x.headD 0) = 1 then 1 else if hoK (x.headD 0) = 2 then 5 else x.length
def fol (x:List Int):List Int:=x.drop (frm x)
theorem Pt.uniq {B:Bk} (hB:B.pos) {w:Int} {x y:List Int} (h1:Pt B w x) (h2:Pt B w y):x = y:=At.uniq (hB.s _) h1.2.1 h2.2.1
def atF:List (List Int)→Nat→List Int
 | [],_=>[]
 | o :: r,i=>if i = 0 then o else if i < o.length then [] else atF r (i - o.length)
theorem At.f:∀ {a:List (List Int)},Pos a→∀ {i:Nat} {x:List Int},At a i x→atF a i = x:=by
 intro a
 induction a with
 | nil=>intro _ i x h;exact h.elim
 | cons o r ih =>
  intro hp i x h;have:=hp.head;unfold atF
  rcases h with ⟨rfl,rfl⟩ | ⟨h1,h⟩
  ·rw [if_pos rfl]
  ·rw [if_neg (by omega),if_neg (by omega),ih hp.tail h]
def ob (B:Bk) (w:Int):List Int:=atF (B.s (pOld w)) (pIx w).toNat
theorem Pt.ob {B:Bk} (hB:B.pos) {w:Int} {x:List Int} (h:Pt B w x):cl.ob B w = x:=At.f (hB.s _) h.2.1
theorem pOk_iff (w:Int):pOk w = true↔(w % 4 = 1∨w % 4 = 2)∧w / 8 < 2147483648:=by simp [pOk]
theorem pIx_eq {w:Int} (h:pOk w = true):pIx w = w / 8:=by unfold pIx;rw [if_pos h]
theorem pOld_iff {w:Int} (h:pOk w = true):pOld w = true↔w / 4 % 2 = 1:=by unfold pOld;rw [h,Bool.true_and,decide_eq_true_eq]
theorem ptr_eq {v w:Int} (hv:pOk v = true) (hw:pOk w = true) (v0:0 ≤ v) (w0:0 ≤ w) (ho:pOld v = pOld w) (hi:(pIx v).toNat = (pIx w).toNat) (ht:v % 4 = 2↔w % 4 = 2):v = w:=by
 have h1:=(pOk_iff v).1 hv;have h2:=(pOk_iff w).1 hw;rw [pIx_eq hv,pIx_eq hw] at hi;have h3:=pOld_iff hv;have h4:=pOld_iff hw;rw [ho,h4] at h3;omega
theorem Pt.inj {B:Bk} (hB:B.pos) {v w:Int} {x y:List Int} (h1:Pt B v x) (h2:Pt B w y) (v0:0 ≤ v) (w0:0 ≤ w) (ho:pOld v = pOld w) (hi:(pIx v).toNat = (pIx w).toNat):v = w:=by
 obtain ⟨a1,b1,c1⟩:=h1;obtain ⟨a2,b2,c2⟩:=h2;rw [ho,hi] at b1;obtain rfl:=At.uniq (hB.s _) b1 b2;exact ptr_eq a1 a2 v0 w0 ho hi (by rw [← c1,← c2])
def wi (w lo hi:Int):Bool:=soOk w && decide (lo ≤ soN w∧soN w ≤ hi)
def usedOk (w n:Int):Bool:=decide (n % 64 = 0) || decide (w * 2 ^ (n % 64).toNat % 18446744073709551616 = 0)
def fmd (k:Int) (l:List Int):Bool :=
 if k = 0 then true
 else if k = 1 then decide (l.length ≤ 255)
 else if k = 2 then decide (4 ≤ l.length∧l.length ≤ 204) && (aoOk (l.getD 0 0) && (wi (l.getD 1 0) 1 2147483647 && (wi (l.getD 2 0) 0 999 && wi (l.getD 3 0) 0 16)))
 else if k = 6 then decide (l.length = 1) && !smallOk (IntKind.i64.wrap (l.getD 0 0))
 else if k = 7 then !decide (l.length = 0) && (wi (l.getD 0 0) 0 512 && (decide ((l.length:Int) - 1 = (soN (l.getD 0 0) + 63) / 64) && usedOk (l.getD (l.length - 1) 0) (soN (l.getD 0 0))))
 else decide (l.length = 3) &&
  (if k = 3 then aoOk (l.getD 0 0) && (aoOk (l.getD 1 0) && wi (l.getD 2 0) 0 16)
   else if k = 4∨k = 5 then aoOk (l.getD 0 0) && (wi (l.getD 1 0) 1 2147483647 && wi (l.getD 2 0) 1 2147483647)
   else wi (l.getD 0 0) 1 2147483647 && (wi (l.getD 1 0) 0 16384 && wi (l.getD 2 0) 513 16384))
def knd (x:List Int):Int:=if x.headD 0 % 4 = 0 then hoK (x.headD 0) else 0
def wds (x:List Int):List Int:=if x.headD 0 % 4 = 0 then x.tail else x
def okO (x:List Int):Bool:=fmd (knd x) (wds x)
structure Sh (m:Mm) (B:Bk):Prop where
 y:Objs m.y B.y
 o:Objs m.o B.o
 ly:m.y.length ≤ 2147483647
 lo:m.o.length ≤ 2147483647
 m0:0 ≤ m.at_
 m1:m.at_ ≤ m.y.length
 m2:m.at_ < m.y.length→∃ x,At B.y m.at_.toNat x
 ok:∀ b i x,At (B.s b) i x→okO x = true∧∀ v ∈ fol x,Tm B v∧(pOk v = true→pOld v = false→b = false∧((i:Int) < m.at_→pIx v < m.at_))
theorem Sh.pos {m:Mm} {B:Bk} (h:Sh m B):B.pos:=⟨h.y.pos,h.o.pos⟩
def metW (l:List Int) (w:Int):List Int:=if pOk w = true∧w ∉ l then l ++ [w] else l
def bfs (f:Int→List Int):Nat→Nat→List Int→List Int
 | 0,_,l=>l
 | n + 1,i,l=>match l[i]? with
  | none=>l
  | some w=>bfs f n (i + 1) ((f w).foldl metW l)
def folB (B:Bk) (w:Int):List Int:=fol (ob B w)
def met (B:Bk) (roots:List Int):List Int:=bfs (folB B) 5001 0 (roots.foldl metW [])
theorem metW_mem {l:List Int} {w v:Int}:v ∈ metW l w↔v ∈ l∨(v = w∧pOk w = true):=by
 unfold metW
 split
 ·rename_i h;rw [List.mem_append,List.mem_singleton]
  constructor
  ·rintro (h' | rfl)
   ·exact .inl h'
   ·exact .inr ⟨rfl,h.1⟩
  ·rintro (h' | ⟨rfl,_⟩)
   ·exact .inl h'
   ·exact .inr rfl
 ·rename_i h
  constructor
  ·exact .inl
  ·rintro (h' | ⟨rfl,hp⟩)
   ·exact h'
   ·by_cases hm:v ∈ l
    ·exact hm
    ·exact absurd ⟨hp,hm⟩ h
theorem fold_mem {ws:List Int}:∀ {l:List Int} {v:Int},v ∈ ws.foldl metW l↔v ∈ l∨(v ∈ ws∧pOk v = true):=by
 induction ws with
 | nil=>intro l v;simp
 | cons w r ih =>
  intro l v;rw [List.foldl_cons,ih,metW_mem,List.mem_cons]
  constructor
  ·rintro ((h | ⟨rfl,h⟩) | h)
   ·exact .inl h
   ·exact .inr ⟨.inl rfl,h⟩
   ·exact .inr ⟨.inr h.1,h.2⟩
  ·rintro (h | ⟨rfl | h,h'⟩)
   ·exact .inl (.inl h)
   ·exact .inl (.inr ⟨rfl,h'⟩)
   ·exact .inr ⟨h,h'⟩
theorem metW_nodup {l:List Int} {w:Int} (h:l.Nodup):(metW l w).Nodup:=by
 unfold metW
 split
 ·rename_i hc;rw [List.nodup_append];exact ⟨h,by simp,fun a ha b hb e=>by simp at hb;subst hb;subst e;exact hc.2 ha⟩
 ·exact h
theorem fold_nodup {ws:List Int}:∀ {l:List Int},l.Nodup→(ws.foldl metW l).Nodup:=by
 induction ws with
 | nil=>intro l h;exact h
 | cons w r ih=>intro l h;exact ih (metW_nodup h)
theorem metW_pre (l:List Int) (w:Int):∃ t,metW l w = l ++ t:=by
 unfold metW
 split
 ·exact ⟨_,rfl⟩
 ·exact ⟨[],by simp⟩
theorem fold_pre {ws:List Int}:∀ (l:List Int),∃ t,ws.foldl metW l = l ++ t:=by
 induction ws with
 | nil=>intro l;exact ⟨[],by simp⟩
 | cons w r ih =>
  intro l;obtain ⟨t,ht⟩:=metW_pre l w;obtain ⟨s,hs⟩:=ih (metW l w);exact ⟨t ++ s,by rw [List.foldl_cons,hs,ht,List.append_assoc]⟩
theorem bfs_pre {f:Int→List Int}:∀ (n i:Nat) (l:List Int),∃ t,bfs f n i l = l ++ t:=by
 intro n
 induction n with
 | zero=>intro i l;exact ⟨[],by simp [bfs]⟩
 | succ n ih =>
  intro i l;unfold bfs
  split
  ·exact ⟨[],by simp⟩
  ·rename_i w _;obtain ⟨t,ht⟩:=fold_pre (ws:=f w) l;obtain ⟨s,hs⟩:=ih (i + 1) ((f w).foldl metW l);exact ⟨t ++ s,by rw [hs,ht,List.append_assoc]⟩
theorem bfs_nodup {f:Int→List Int}:∀ (n i:Nat) (l:List Int),l.Nodup→(bfs f n i l).Nodup:=by
 intro n
 induction n with
 | zero=>intro i l h;exact h
 | succ n ih =>
  intro i l h;unfold bfs
  split
  ·exact h
  ·exact ih _ _ (fold_nodup h)
theorem bfs_in {f:Int→List Int} {P:Int→Prop} (hP:∀ w,P w→∀ v ∈ f w,pOk v = true→P v):∀ (n i:Nat) (l:List Int),(∀ w ∈ l,P w)→∀ w ∈ bfs f n i l,P w:=by
 intro n
 induction n with
 | zero=>intro i l h;exact h
 | succ n ih =>
  intro i l h;unfold bfs
  split
  ·exact h
  ·rename_i w hw;refine ih _ _ (fun v hv=>?_)
   rcases fold_mem.1 hv with h' | ⟨h1,h2⟩
   ·exact h v h'
   ·exact hP w (h w (List.mem_of_getElem? hw)) v h1 h2
theorem bfs_closed {f:Int→List Int} {P:Int→Prop} {N:Nat} (hP:∀ w,P w→∀ v ∈ f w,pOk v = true→P v) (hN:∀ l:List Int,l.Nodup→(∀ w ∈ l,P w)→l.length < N):∀ (n i:Nat) (l:List Int),N ≤ n + i→l.Nodup→(∀ w ∈ l,P w)→(∀ j w,j < i→l[j]? = some w→∀ v ∈ f w,pOk v = true→v ∈ l)→∀ w ∈ bfs f n i l,∀ v ∈ f w,pOk v = true→v ∈ bfs f n i l:=by
 intro n
 induction n with
 | zero =>
  intro i l hn hd h hc w hw v hv hp;have hl:=hN l hd h;have hw:w ∈ l:=hw;obtain ⟨j,hj⟩:=List.getElem?_of_mem hw;have:=(List.getElem?_eq_some_iff.1 hj).1;exact hc j w (by omega) hj v hv hp
 | succ n ih =>
  intro i l hn hd h hc;unfold bfs
  split
  ·rename_i hi;have hi:=List.getElem?_eq_none_iff.1 hi;intro w hw v hv hp;obtain ⟨j,hj⟩:=List.getElem?_of_mem hw;have:=(List.getElem?_eq_some_iff.1 hj).1;exact hc j w (by omega) hj v hv hp
  ·rename_i u hu;obtain ⟨t,ht⟩:=fold_pre (ws:=f u) l
   refine ih (i + 1) _ (by omega) (fold_nodup hd) (fun v hv=>?_) (fun j w hj hw v hv hp=>?_)
   ·rcases fold_mem.1 hv with h' | ⟨h1,h2⟩
    ·exact h v h'
    ·exact hP u (h u (List.mem_of_getElem? hu)) v h1 h2
   ·have hi:=(List.getElem?_eq_some_iff.1 hu).1;rw [ht,List.getElem?_append_left (by omega)] at hw
    by_cases hji:j < i
    ·exact fold_mem.2 (.inl (hc j w hji hw v hv hp))
    ·obtain rfl:j = i:=by omega
     rw [hu] at hw;obtain rfl:=Option.some.inj hw;exact fold_mem.2 (.inr ⟨hv,hp⟩)
theorem metW_map {g:Int→Int} {P:Int→Prop} {l:List Int} {w:Int} (hl:∀ v ∈ l,P v) (hw:pOk w = true→P w) (hp:pOk (g w) = pOk w) (hi:∀ u v,P u→P v→g u = g v→u = v):metW (l.map g) (g w) = (metW l w).map g:=by
 unfold metW;rw [hp]
 by_cases h1:pOk w = true
 ·by_cases h2:w ∈ l
  ·rw [if_neg (fun h=>h.2 (List.mem_map_of_mem h2)),if_neg (fun h=>h.2 h2)]
  ·have hm:g w ∉ l.map g:=by
    intro h;obtain ⟨v,hv,e⟩:=List.mem_map.1 h;obtain rfl:=hi v w (hl v hv) (hw h1) e;exact h2 hv
   rw [if_pos ⟨h1,hm⟩,if_pos ⟨h1,h2⟩,List.map_append,List.map_cons,List.map_nil]
 ·rw [if_neg (fun h=>h1 h.1),if_neg (fun h=>h1 h.1)]
theorem fold_map {g:Int→Int} {P:Int→Prop} (hi:∀ u v,P u→P v→g u = g v→u = v):∀ {ws l:List Int},(∀ v ∈ l,P v)→(∀ v ∈ ws,pOk v = true→P v)→(∀ v ∈ ws,pOk (g v) = pOk v)→(ws.map g).foldl metW (l.map g) = (ws.foldl metW l).map g:=by
 intro ws
 induction ws with
 | nil=>intro l _ _ _;rfl
 | cons w r ih =>
  intro l hl hw hp;rw [List.map_cons,List.foldl_cons,List.foldl_cons,metW_map hl (hw w List.mem_cons_self) (hp w List.mem_cons_self) hi];refine ih (fun v hv=>?_) (fun v hv=>hw v (List.mem_cons_of_mem _ hv)) (fun v hv=>hp v (List.mem_cons_of_mem _ hv))
  rcases metW_mem.1 hv with h | ⟨rfl,h⟩
  ·exact hl v h
  ·exact hw v List.mem_cons_self h
theorem bfs_map {f1 f2:Int→List Int} {g:Int→Int} {P:Int→Prop} (hi:∀ u v,P u→P v→g u = g v→u = v) (hc:∀ w,P w→∀ v ∈ f1 w,pOk v = true→P v) (hg:∀ w,P w→∀ v ∈ f1 w,pOk (g v) = pOk v) (hf:∀ w,P w→f2 (g w) = (f1 w).map g):∀ (n i:Nat) (l:List Int),(∀ w ∈ l,P w)→bfs f2 n i (l.map g) = (bfs f1 n i l).map g:=by
 intro n
 induction n with
 | zero=>intro i l h;rfl
 | succ n ih =>
  intro i l h;unfold bfs;rw [List.getElem?_map];cases hu:l[i]? with
  | none=>rfl
  | some u =>
   have hPu:=h u (List.mem_of_getElem? hu);show bfs f2 n (i + 1) ((f2 (g u)).foldl metW (l.map g)) = _;rw [hf u hPu,fold_map hi h (hc u hPu) (hg u hPu)];refine ih (i + 1) _ (fun v hv=>?_)
   rcases fold_mem.1 hv with h' | ⟨h1,h2⟩
   ·exact h v h'
   ·exact hc u hPu v h1 h2
theorem nodup_le:∀ (n:Nat) {l:List Nat},l.Nodup→(∀ x ∈ l,x < n)→l.length ≤ n:=by
 intro n
 induction n with
 | zero =>
  intro l _ h;cases l with
  | nil=>exact Nat.le_refl _
  | cons a r=>have:=h a List.mem_cons_self;omega
 | succ n ih =>
  intro l hd h;have h1:=ih (l:=l.erase n) (hd.erase n) (fun x hx=>by
   have:=h x (List.mem_of_mem_erase hx)
   have h2:=(List.Nodup.mem_erase_iff hd).1 hx
   omega)
  rw [List.length_erase] at h1
  split at h1 <;> omega
theorem pts_len {B:Bk} (hB:B.pos) {l:List Int} (hd:l.Nodup) (h0:∀ w ∈ l,0 ≤ w) (hp:∀ w ∈ l,∃ x,Pt B w x):l.length ≤ B.y.flatten.length + B.o.flatten.length:=by
 have hc:(l.map (fun w=>(if pOld w then B.y.flatten.length else 0) + (pIx w).toNat)).length ≤ B.y.flatten.length + B.o.flatten.length:=by
  refine nodup_le _ ?_ ?_
  ·refine List.Pairwise.map _ (R:=fun a b=>¬ (a = b)∧a ∈ l∧b ∈ l) ?_ ?_
   ·rintro a b ⟨hne,ha,hb⟩ e;obtain ⟨x,hx⟩:=hp a ha;obtain ⟨y,hy⟩:=hp b hb;have b1:=hx.2.1.bound;have b2:=hy.2.1.bound;have p1:=(hB.s _) x hx.2.1.mem;have p2:=(hB.s _) y hy.2.1.mem
    refine hne (Pt.inj hB hx hy (h0 a ha) (h0 b hb) ?_ ?_)
    ·cases h1:pOld a <;> cases h2:pOld b <;> simp [h1,h2,Bk.s] at e b1 b2 ⊢ <;> omega
    ·cases h1:pOld a <;> cases h2:pOld b <;> simp [h1,h2,Bk.s] at e b1 b2 ⊢ <;> omega
   ·exact List.Pairwise.imp_of_mem (fun ha hb hne=>⟨hne,ha,hb⟩) hd
  ·intro z hz;obtain ⟨w,hw,rfl⟩:=List.mem_map.1 hz;obtain ⟨x,hx⟩:=hp w hw;have b1:=hx.2.1.bound;have p1:=(hB.s _) x hx.2.1.mem;cases h1:pOld w <;> simp [h1,Bk.s] at b1 ⊢ <;> omega
 rwa [List.length_map] at hc
end Go.Proofs.YtpnlnbolhkcnjaaGreat.cl
