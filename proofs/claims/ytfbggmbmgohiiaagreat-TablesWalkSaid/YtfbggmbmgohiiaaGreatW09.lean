/- Texts of this seat, one behind the other: TmV, OrB, OrC, TbA, TmW. No condition beyond theirs. -/
import Derived.Test.YtfbggmbmgohiiaaGreatW05
import Derived.Test.YtfbggmbmgohiiaaGreatW08
import Derived.Lib.UnsafeStr
set_option linter.unusedSimpArgs false
set_option linter.unusedVariables false
set_option maxHeartbeats 4000000
set_option maxRecDepth 100000
namespace Go.Proofs.YtfbggmbmgohiiaaGreat.tm
open Go.RowKit mem names
def headC (f1 f2:TF):Int:=firstL [cmpB f1.name f2.name,cmpB f1.func f2.func,cmpI f1.gen f2.gen,cmpI f1.int f2.int,cmpI f1.arity f2.arity]
def bitsC (f1 f2:TF):Int :=
 let n:=(min f1.bits f2.bits).toNat
 let k:=Lib.compareBytes (f1.bytes.data.toList.take (n / 8)) (f2.bytes.data.toList.take (n / 8))
 if k = 0 then
  (if n % 8 = 0 then cmpI f1.bits f2.bits else
    (let x:=((f1.bytes.data.toList.getD (n / 8) 0).toNat / 2 ^ (8 - n % 8):Nat)
     let y:=((f2.bytes.data.toList.getD (n / 8) 0).toNat / 2 ^ (8 - n % 8):Nat)
     if cmpI x y = 0 then cmpI f1.bits f2.bits else cmpI x y))
 else k
def cmpF {α:Type} (kd:α→Int) (c:α→α→Int) (f1 f2:TF) (l1 l2:List α):Int :=
 if f1.kind = f2.kind then
  (if f1.kind = 7 then itemsC c l1 l2 else if f1.kind = 9 then listsC kd c l1 l2 else if f1.kind = 10 then bitsC f1 f2 else if headC f1 f2 = 0 then itemsC c l1 l2 else headC f1 f2)
 else cmpI f1.kind f2.kind
def kdT:(n:Nat)→Tm n→Int
 | 0,_=>0
 | n + 1,t=>t.f.kind
def cmpTm:(n:Nat)→Tm n→Tm n→Int
 | 0,_,_=>0
 | n + 1,a,b=>cmpF (kdT n) (cmpTm n) a.f b.f a.items b.items
def IPostC (r:Int) (w:World) (e:Ending) (w':World):Prop:=e = .returned (.int .i64 r)∧Below w.heap.size w w'
def CmpS (n:Nat):Prop:=∀ (w:World) (B:Nat) (v1 v2:Value) (a b:Tm (n + 1)),B ≤ w.heap.size→ItemsAt w B n v1 a.items→ItemsAt w B n v2 b.items→formedT a = true→formedT b = true→Calls Tryz.prog 121 #[aggV a.f v1,aggV b.f v2] w (IPostC (cmpTm (n + 1) a b) w)
theorem formed_at {n:Nat} {l:List (Tm (n + 1))} (hf:formedL (n + 1) l = true) (j:Nat) (h:j < l.length):formedT l[j] = true:=by
 unfold formedL at hf
 rw [List.all_eq_true] at hf
 exact hf l[j] (List.getElem_mem h)
theorem pairEl {n:Nat} (ih:∀ m,n = m + 1→CmpS m) (w:World) (B:Nat) (p1 p2:Option Addr) (n1 n2 c1 c2:Nat) (l1 l2:List (Tm n)) (hB:B ≤ w.heap.size) (h1:ItemsAt w B n (.slice p1 n1 c1) l1) (h2:ItemsAt w B n (.slice p2 n2 c2) l2) (f1:formedL n l1 = true) (f2:formedL n l2 = true) :
 ∀ i j,(hi:i < l1.length)→(hj:j < l2.length)→∃ g1 o1 x1 q1 m1 d1 g2 o2 x2 q2 m2 d2,p1 = some ⟨g1,o1,none⟩∧g1 < w.heap.size∧Cells w g1 (o1 + i * 9) x1 (.slice q1 m1 d1)∧p2 = some ⟨g2,o2,none⟩∧g2 < w.heap.size∧Cells w g2 (o2 + j * 9) x2 (.slice q2 m2 d2) ∧
  x1.kind = kdT n l1[i]∧x2.kind = kdT n l2[j]∧∀ W,Below w.heap.size w W→Calls Tryz.prog 121 #[aggV x1 (.slice q1 m1 d1),aggV x2 (.slice q2 m2 d2)] W (IPostC (cmpTm n l1[i] l2[j]) W):=by
 cases n with
 | zero=>intro i j hi;rw [Tm.nil0 l1] at hi;exact absurd hi (by simp)
 | succ n =>
  intro i j hi hj
  obtain ⟨g1,o1,d1,e1,_,_,hg1,hx1⟩:=h1.at_ (by intro e;subst e;simp at hi)
  obtain ⟨u1,hC1,hI1⟩:=hx1 i hi
  obtain ⟨g2,o2,d2,e2,_,_,hg2,hx2⟩:=h2.at_ (by intro e;subst e;simp at hj)
  obtain ⟨u2,hC2,hI2⟩:=hx2 j hj
  simp only [Value.slice.injEq] at e1 e2
  obtain ⟨q1,c1',rfl,_,_⟩:=hI1.shape
  obtain ⟨q2,c2',rfl,_,_⟩:=hI2.shape
  refine ⟨g1,o1,l1[i].f,q1,_,c1',g2,o2,l2[j].f,q2,_,c2',e1.1,by omega,hC1,e2.1,by omega,hC2,rfl,rfl,fun W hb=>?_⟩
  exact ih n rfl W B _ _ l1[i] l2[j] (Nat.le_trans hB hb.size) (hI1.below hb hB) (hI2.below hb hB) (formed_at f1 i hi) (formed_at f2 j hj)
theorem each_at {α:Type} (c:α→α→Int):∀ (l m:List α) (k:Nat) (h1:k < l.length) (h2:k < m.length),(∀ j,(a:j < l.length)→(b:j < m.length)→j < k→c l[j] m[j] = 0)→c l[k] m[k] ≠ 0→eachC c l m = c l[k] m[k]
 | x :: l,y :: m,0,h1,h2,_,hn=>by
  unfold eachC
  rw [if_neg (show ¬ c x y = 0 from hn)];rfl
 | x :: l,y :: m,k + 1,h1,h2,ha,hn=>by
  unfold eachC
  rw [if_pos (show c x y = 0 from ha 0 (by simp) (by simp) (by omega)),each_at c l m k (by simpa using h1) (by simpa using h2) (fun j a b hk=>ha (j + 1) (by simpa using a) (by simpa using b) (by omega)) hn];rfl
theorem each_zero {α:Type} (c:α→α→Int):∀ (l m:List α),l.length = m.length→(∀ j,(a:j < l.length)→(b:j < m.length)→c l[j] m[j] = 0)→eachC c l m = 0
 | [],[],_,_=>rfl
 | x :: l,y :: m,hl,ha=>by
  unfold eachC
  rw [if_pos (show c x y = 0 from ha 0 (by simp) (by simp)),each_zero c l m (by simpa using hl) (fun j a b=>ha (j + 1) (by simpa using a) (by simpa using b))]
theorem eachW {n:Nat} (ih:∀ m,n = m + 1→CmpS m) (w:World) (B:Nat) (v1 v2:Value) (l1 l2:List (Tm n)) (hB:B ≤ w.heap.size) (h1:ItemsAt w B n v1 l1) (h2:ItemsAt w B n v2 l2) (f1:formedL n l1 = true) (f2:formedL n l2 = true) (hl:l1.length = l2.length) :
 Calls Tryz.prog 154 #[v1,v2,.func (.func 121) #[] #[]] w (IPostC (eachC (cmpTm n) l1 l2) w):=by
 obtain ⟨p1,c1,rfl,hc1,hm1⟩:=h1.shape
 obtain ⟨p2,c2,rfl,hc2,hm2⟩:=h2.shape
 unfold maxLen at hm1 hm2
 have HP:=Lib.hid (pairEl ih w B p1 p2 _ _ c1 c2 l1 l2 hB h1 h2 f1 f2)
 have HAt:=Lib.hid (each_at (cmpTm n) l1 l2)
 have HZ:=Lib.hid (each_zero (cmpTm n) l1 l2 hl)
 generalize eachC (cmpTm n) l1 l2 = r at *
 have HL:=Lib.hid hl
 rw [← hl] at hc2
 rw [← hl]
 clear ih h1 h2 f1 f2 hl
 go_enter Tryz.func154,Tryz.ntmps154
 go_wp2_with fail
 go_loopw [11] (fun s wr=>∃ k:Nat,s = .int .i64 k∧k ≤ l1.length∧Hid (∀ j,(a:j < l1.length)→(b:j < l2.length)→j < k→cmpTm n l1[j] l2[j] = 0)∧Below w.heap.size w wr) (fun s _=>l1.length - (intOf s).toNat)
 case atStart=>exact ⟨0,rfl,by omega,Lib.hid (fun j _ _ h=>by omega),Below.refl _ _⟩
 case round =>
  obtain ⟨k,rfl,hk,HA,hb⟩:=hrel
  by_cases hlt:k < l1.length
  ·have hkb:k < l2.length:=by have:=HL.out;omega
   obtain ⟨g1,o1,x1,q1,m1,d1,g2,o2,x2,q2,m2,d2,rfl,hg1,hC1,rfl,hg2,hC2,ek1,ek2,hCall⟩:=HP.out k k hlt hkb
   clear ek1 ek2
   have hC1:=hC1.same (hb.block g1 hg1)
   have hC2:=hC2.same (hb.block g2 hg2)
   obtain ⟨x10,x11,x12,x13,x14,x15,x16,x17,x18⟩:=hC1
   obtain ⟨y10,y11,y12,y13,y14,y15,y16,y17,y18⟩:=hC2
   have hb':Below w.heap.size w wr.drew:=hb.drewN 1
   have HC:=Lib.hid (hCall wr.drew hb')
   clear hCall
   have HA1:=Lib.hid (HAt.out k hlt hkb HA.out)
   have HA2:Hid (cmpTm n l1[k] l2[k] = 0→∀ j,(a:j < l1.length)→(b:j < l2.length)→j < k + 1→cmpTm n l1[j] l2[j] = 0):=Lib.hid (fun e j a b hj=>by
    by_cases e2:j = k
    ·subst e2;exact e
    ·exact HA.out j a b (by omega))
   generalize cmpTm n l1[k] l2[k] = x at *
   unfold aggV IPostC at HC
   go_wp2_with fail
   go_still_tail 9,(by kernel_rfl)
   change wpList _ _ _ _ _ wr.drew
   clear x10 x11 x12 x13 x14 x15 x16 x17 x18 y10 y11 y12 y13 y14 y15 y16 y17 y18
   generalize wr.drew = w2 at *
   go_wp2_with fail
   refine HC.out.mono ?_
   rintro e w3 ⟨rfl,hb3⟩
   have hb4:Below w.heap.size w w3:=hb'.trans (hb3.mono hb'.size)
   by_cases hx:x = 0
   ·subst hx
    have H2:=Lib.hid (HA2.out rfl)
    clear HA1 HA2
    go_wp2_with fail
    go_roundw
    case rel=>exact ⟨k + 1,by go_num,by omega,H2,hb4⟩
    case measure=>simp [intOf];omega
   ·have q:(x != 0) = true:=by simp [hx]
    have HF:=Lib.hid (HA1.out hx)
    clear HA1 HA2 hx
    go_wp2_with fail
    go_ret
    exact ⟨ret1i HF.out.symm,hb4⟩
  ·have HF:=Lib.hid (HZ.out (fun j a b=>HA.out j a b (by omega)))
   go_wp2_with fail
   go_ret
   exact ⟨ret1i HF.out.symm,hb⟩
end Go.Proofs.YtfbggmbmgohiiaaGreat.tm
namespace Go.Proofs.YtfbggmbmgohiiaaGreat.tm
theorem getD_in {α:Type} {l:List α} {i:Nat} {d:α} (h:i < l.length):l.getD i d = l[i]:=by rw [List.getD_eq_getElem?_getD,List.getElem?_eq_getElem h];rfl
def lexN (x y:Nat→Int):Nat→Int
 | 0=>0
 | n + 1=>if lexN x y n = 0 then cmpI (x n) (y n) else lexN x y n
theorem lexN_front (x y:Nat→Int):∀ n,lexN x y (n + 1) = if cmpI (x 0) (y 0) = 0 then lexN (fun i=>x (i + 1)) (fun i=>y (i + 1)) n else cmpI (x 0) (y 0)
 | 0=>by
  show (if (0:Int) = 0 then cmpI (x 0) (y 0) else 0) = _
  rw [if_pos rfl]
  split
  next e=>rw [e];rfl
  next=>rfl
 | n + 1=>by
  rw [lexN,lexN_front x y n]
  split
  next e =>
   show (if _ = 0 then _ else _) = lexN _ _ (n + 1)
   rw [lexN]
  next e=>first | rfl | rw [if_neg e]
theorem lexN_lex:∀ (x y:Nat→Int) (p q:Nat),lexG cmpI ((List.range p).map x) ((List.range q).map y) = if lexN x y (min p q) = 0 then cmpI p q else lexN x y (min p q)
 | x,y,0,0=>rfl
 | x,y,0,q + 1=>by
  rw [Nat.zero_min,List.range_succ_eq_map]
  show (-1:Int) = if (0:Int) = 0 then _ else _
  rw [if_pos rfl];unfold cmpI;rw [if_pos (by omega)]
 | x,y,p + 1,0=>by
  rw [Nat.min_zero,List.range_succ_eq_map]
  show (1:Int) = if (0:Int) = 0 then _ else _
  rw [if_pos rfl];unfold cmpI;rw [if_neg (by omega),if_pos (by omega)]
 | x,y,p + 1,q + 1=>by
  have ih:=lexN_lex (fun i=>x (i + 1)) (fun i=>y (i + 1)) p q
  rw [show min (p + 1) (q + 1) = min p q + 1 by omega,lexN_front,List.range_succ_eq_map,List.range_succ_eq_map,List.map_cons,List.map_cons,lexG,List.map_map,List.map_map]
  have ec:cmpI ((p + 1:Nat):Int) ((q + 1:Nat):Int) = cmpI (p:Int) (q:Int):=by unfold cmpI;congr 1 <;> (first | (simp;done) | (congr 1;simp))
  rw [ec]
  split
  next e=>exact ih
  next e=>first | rfl | rw [if_neg e]
theorem cb_snoc (a b:UInt8):∀ l m:List UInt8,l.length = m.length→Lib.compareBytes (l ++ [a]) (m ++ [b]) = if Lib.compareBytes l m = 0 then cmpU a b else Lib.compareBytes l m
 | [],[],_=>by
  rw [cb_lex,cb_lex]
  show (if cmpU a b = 0 then (0:Int) else cmpU a b) = if (0:Int) = 0 then _ else _
  rw [if_pos rfl];split
  next e=>exact e.symm
  next=>rfl
 | x :: l,y :: m,h=>by
  have ih:=cb_snoc a b l m (by simpa using h)
  rw [cb_lex,cb_lex] at ih ⊢
  rw [List.cons_append,List.cons_append,lexG,lexG]
  split
  next e=>exact ih
  next e=>first | rfl | rw [if_neg e]
def byteAt (s:List UInt8) (i:Nat):Nat:=(s.getD i 0).toNat
def bitAt (s:List UInt8) (i:Nat):Int:=((byteAt s (i / 8) / 2 ^ (7 - i % 8) % 2:Nat):Int)
theorem bit_step (x y r:Nat) (hr:r < 8):(if cmpI ((x / 2 ^ (8 - r):Nat):Int) ((y / 2 ^ (8 - r):Nat):Int) = 0 then cmpI ((x / 2 ^ (7 - r) % 2:Nat):Int) ((y / 2 ^ (7 - r) % 2:Nat):Int) else cmpI ((x / 2 ^ (8 - r):Nat):Int) ((y / 2 ^ (8 - r):Nat):Int)) = cmpI ((x / 2 ^ (8 - (r + 1)):Nat):Int) ((y / 2 ^ (8 - (r + 1)):Nat):Int):=by
 rw [show 8 - (r + 1) = 7 - r by omega,show 8 - r = (7 - r) + 1 by omega,Nat.pow_succ,← Nat.div_div_eq_div_mul,← Nat.div_div_eq_div_mul]
 generalize x / 2 ^ (7 - r) = u
 generalize y / 2 ^ (7 - r) = v
 by_cases h1:u / 2 < v / 2
 ·have e1:cmpI ((u / 2:Nat):Int) ((v / 2:Nat):Int) = -1:=by unfold cmpI;rw [if_pos (by omega)]
  have e2:cmpI (u:Int) v = -1:=by unfold cmpI;rw [if_pos (by omega)]
  rw [e1,e2];rfl
 ·by_cases h2:v / 2 < u / 2
  ·have e1:cmpI ((u / 2:Nat):Int) ((v / 2:Nat):Int) = 1:=by unfold cmpI;rw [if_neg (by omega),if_pos (by omega)]
   have e2:cmpI (u:Int) v = 1:=by unfold cmpI;rw [if_neg (by omega),if_pos (by omega)]
   rw [e1,e2];rfl
  ·rw [if_pos (cmpI_z.2 (by omega))]
   unfold cmpI
   by_cases h3:u < v
   ·rw [if_pos (by omega),if_pos (by omega)]
   ·by_cases h4:v < u
    ·rw [if_neg (by omega),if_pos (by omega),if_neg (by omega),if_pos (by omega)]
    ·rw [if_neg (by omega),if_neg (by omega),if_neg (by omega),if_neg (by omega)]
def wholeC (a b:List UInt8) (q r:Nat):Int :=
 if Lib.compareBytes (a.take q) (b.take q) = 0 then cmpI ((byteAt a q / 2 ^ (8 - r):Nat):Int) ((byteAt b q / 2 ^ (8 - r):Nat):Int) else Lib.compareBytes (a.take q) (b.take q)
theorem byteAt_lt (a:List UInt8) (q:Nat):byteAt a q < 256:=UInt8.toNat_lt _
theorem whole_0 (a b:List UInt8) (q:Nat):wholeC a b q 0 = Lib.compareBytes (a.take q) (b.take q):=by
 unfold wholeC
 have h1:byteAt a q / 2 ^ (8 - 0) = 0:=Nat.div_eq_of_lt (byteAt_lt a q)
 have h2:byteAt b q / 2 ^ (8 - 0) = 0:=Nat.div_eq_of_lt (byteAt_lt b q)
 rw [h1,h2]
 split
 next e=>rw [e];rfl
 next=>rfl
theorem whole_8 (a b:List UInt8) (q:Nat) (ha:q < a.length) (hb:q < b.length):wholeC a b q 8 = wholeC a b (q + 1) 0:=by
 rw [whole_0,List.take_succ_eq_append_getElem ha,List.take_succ_eq_append_getElem hb,cb_snoc _ _ _ _ (by simp;omega)]
 unfold wholeC cmpU byteAt
 rw [getD_in ha,getD_in hb]
 simp
theorem lexN_whole {n:Nat} (a b:List UInt8) (ha:∀ q,q < n / 8→q < a.length) (hb:∀ q,q < n / 8→q < b.length):lexN (bitAt a) (bitAt b) n = wholeC a b (n / 8) (n % 8):=by
 induction n with
 | zero=>rw [whole_0];rfl
 | succ n ih =>
  have ih:=ih (fun q hq=>ha q (by omega)) (fun q hq=>hb q (by omega))
  rw [lexN,ih]
  have hs:(if wholeC a b (n / 8) (n % 8) = 0 then cmpI (bitAt a n) (bitAt b n) else wholeC a b (n / 8) (n % 8)) = wholeC a b (n / 8) (n % 8 + 1):=by
   have hbs:=bit_step (byteAt a (n / 8)) (byteAt b (n / 8)) (n % 8) (by omega)
   unfold wholeC bitAt
   by_cases e:Lib.compareBytes (a.take (n / 8)) (b.take (n / 8)) = 0
   ·rw [if_pos e,if_pos e];exact hbs
   ·rw [if_neg e,if_neg e,if_neg e]
  rw [hs]
  by_cases e:n % 8 = 7
  ·rw [show (n + 1) / 8 = n / 8 + 1 by omega,show (n + 1) % 8 = 0 by omega,show n % 8 + 1 = 8 by omega]
   exact whole_8 a b _ (ha _ (by omega)) (hb _ (by omega))
  ·rw [show (n + 1) / 8 = n / 8 by omega,show (n + 1) % 8 = n % 8 + 1 by omega]
def bitL (f:TF):List Int:=(List.range f.bits.toNat).map (bitAt f.bytes.data.toList)
structure BitsOK (f:TF):Prop where
 lo:0 ≤ f.bits
 hi:f.bits ≤ 16384
 size:(f.bytes.size:Int) = (f.bits + 7) / 8
 last:f.bits % 8 = 0∨lastByte f.bytes % 2 ^ (8 - (f.bits % 8).toNat) = 0
theorem bits_lexN (f1 f2:TF) (h1:BitsOK f1) (h2:BitsOK f2):bitsC f1 f2 = if lexN (bitAt f1.bytes.data.toList) (bitAt f2.bytes.data.toList) (min f1.bits f2.bits).toNat = 0 then cmpI f1.bits f2.bits else lexN (bitAt f1.bytes.data.toList) (bitAt f2.bytes.data.toList) (min f1.bits f2.bits).toNat:=by
 obtain ⟨a1,_,a2,_⟩:=h1
 obtain ⟨b1,_,b2,_⟩:=h2
 have s1:f1.bytes.data.toList.length = f1.bytes.size:=by simp
 have s2:f2.bytes.data.toList.length = f2.bytes.size:=by simp
 rw [lexN_whole _ _ (fun q hq=>by omega) (fun q hq=>by omega)]
 unfold bitsC wholeC byteAt
 dsimp only
 generalize (min f1.bits f2.bits).toNat = n
 by_cases e:Lib.compareBytes (f1.bytes.data.toList.take (n / 8)) (f2.bytes.data.toList.take (n / 8)) = 0
 ·simp only [e,if_true]
  by_cases e0:n % 8 = 0
  ·rw [if_pos e0,e0]
   have h1:((f1.bytes.data.toList).getD (n / 8) 0).toNat / 2 ^ (8 - 0) = 0:=Nat.div_eq_of_lt (UInt8.toNat_lt _)
   have h2:((f2.bytes.data.toList).getD (n / 8) 0).toNat / 2 ^ (8 - 0) = 0:=Nat.div_eq_of_lt (UInt8.toNat_lt _)
   rw [h1,h2];rfl
  ·rw [if_neg e0]
 ·simp only [e,if_false]
theorem bits_lex (f1 f2:TF) (h1:BitsOK f1) (h2:BitsOK f2):bitsC f1 f2 = lexG cmpI (bitL f1) (bitL f2):=by
 rw [bits_lexN f1 f2 h1 h2]
 unfold bitL
 rw [lexN_lex]
 obtain ⟨a1,_,a2,_⟩:=h1
 obtain ⟨b1,_,b2,_⟩:=h2
 rw [show (min f1.bits f2.bits).toNat = min f1.bits.toNat f2.bits.toNat by omega,Int.toNat_of_nonneg a1,Int.toNat_of_nonneg b1]
theorem bits_range (f1 f2:TF):bitsC f1 f2 = -1∨bitsC f1 f2 = 0∨bitsC f1 f2 = 1:=by
 unfold bitsC
 dsimp only
 split
 ·split
  ·exact cmpI_range _ _
  ·split
   ·exact cmpI_range _ _
   ·exact cmpI_range _ _
 ·exact cb_three _ _
theorem bits_anti (f1 f2:TF):bitsC f2 f1 = - bitsC f1 f2:=by
 unfold bitsC
 dsimp only
 rw [show min f2.bits f1.bits = min f1.bits f2.bits by omega]
 generalize (min f1.bits f2.bits).toNat = n
 have e1:Lib.compareBytes (f2.bytes.data.toList.take (n / 8)) (f1.bytes.data.toList.take (n / 8)) = - Lib.compareBytes (f1.bytes.data.toList.take (n / 8)) (f2.bytes.data.toList.take (n / 8)):=by
  rw [cb_lex,cb_lex];exact lexG_anti tpU.anti _ _
 have e2:=cmpI_anti f1.bits f2.bits
 have e3:=cmpI_anti (((f1.bytes.data.toList.getD (n / 8) 0).toNat / 2 ^ (8 - n % 8):Nat):Int) (((f2.bytes.data.toList.getD (n / 8) 0).toNat / 2 ^ (8 - n % 8):Nat):Int)
 generalize cmpI (((f1.bytes.data.toList.getD (n / 8) 0).toNat / 2 ^ (8 - n % 8):Nat):Int) (((f2.bytes.data.toList.getD (n / 8) 0).toNat / 2 ^ (8 - n % 8):Nat):Int) = z at *
 rw [e1,e2,e3]
 split <;> split <;> (try split) <;> (try split) <;> omega
theorem tpBits:TP BitsOK bitsC:=by
 refine ⟨bits_range,bits_anti,fun a b d ha hb hd x y=>?_⟩
 rw [bits_lex a b ha hb] at x
 rw [bits_lex b d hb hd] at y
 rw [bits_lex a d ha hd]
 exact tpI.lex.trans _ _ _ (fun _ _=>trivial) (fun _ _=>trivial) (fun _ _=>trivial) x y
theorem last_bits (f:TF) (h:BitsOK f) (h0:f.bits % 8 ≠ 0):lastByte f.bytes = byteAt f.bytes.data.toList (f.bits.toNat / 8):=by
 have s1:f.bytes.data.toList.length = f.bytes.size:=by simp
 have:=h.size
 have:=h.lo
 unfold lastByte byteAt
 have hl:f.bits.toNat / 8 = f.bytes.data.toList.length - 1:=by omega
 rw [hl,List.getLastD_eq_getLast?,List.getLast?_eq_getElem?,← List.getD_eq_getElem?_getD]
theorem bits_eq (f1 f2:TF) (h1:BitsOK f1) (h2:BitsOK f2) (h:bitsC f1 f2 = 0):f1.bits = f2.bits∧f1.bytes = f2.bytes:=by
 have l1:=last_bits f1 h1
 have l2:=last_bits f2 h2
 obtain ⟨a1,a0,a2,a3⟩:=h1
 obtain ⟨b1,b0,b2,b3⟩:=h2
 have s1:f1.bytes.data.toList.length = f1.bytes.size:=by simp
 have s2:f2.bytes.data.toList.length = f2.bytes.size:=by simp
 unfold bitsC at h
 dsimp only at h
 split at h
 next e =>
  have et:=cb_eq0 e
  have eb:f1.bits = f2.bits:=by
   split at h
   ·exact cmpI_z.1 h
   ·split at h
    ·exact cmpI_z.1 h
    ·contradiction
  refine ⟨eb,?_⟩
  rw [show min f1.bits f2.bits = f1.bits by omega] at et h
  rw [← eb] at b2 b3 l2
  split at h
  next e0 =>
   rw [List.take_of_length_le (by omega),List.take_of_length_le (by omega)] at et
   exact ByteArray.ext (Array.ext' et)
  next e0 =>
   have hp:(f1.bits % 8).toNat = f1.bits.toNat % 8:=by omega
   have hx:=a3.resolve_left (by omega)
   have hy:=b3.resolve_left (by omega)
   rw [l1 (by omega),hp] at hx
   rw [l2 (by omega),hp] at hy
   split at h
   next e2 =>
    have e3:=cmpI_z.1 e2
    have hbyte:byteAt f1.bytes.data.toList (f1.bits.toNat / 8) = byteAt f2.bytes.data.toList (f1.bits.toNat / 8):=by
     have x1:=Nat.div_add_mod (byteAt f1.bytes.data.toList (f1.bits.toNat / 8)) (2 ^ (8 - f1.bits.toNat % 8))
     have x2:=Nat.div_add_mod (byteAt f2.bytes.data.toList (f1.bits.toNat / 8)) (2 ^ (8 - f1.bits.toNat % 8))
     rw [hx] at x1
     rw [hy] at x2
     have e4:byteAt f1.bytes.data.toList (f1.bits.toNat / 8) / 2 ^ (8 - f1.bits.toNat % 8) = byteAt f2.bytes.data.toList (f1.bits.toNat / 8) / 2 ^ (8 - f1.bits.toNat % 8):=by unfold byteAt;exact Int.ofNat_inj.1 e3
     rw [← x1,← x2,e4]
    have q1:f1.bits.toNat / 8 < f1.bytes.data.toList.length:=by omega
    have q2:f1.bits.toNat / 8 < f2.bytes.data.toList.length:=by omega
    have hb2:f1.bytes.data.toList[f1.bits.toNat / 8] = f2.bytes.data.toList[f1.bits.toNat / 8]:=by
     unfold byteAt at hbyte
     rw [getD_in q1,getD_in q2] at hbyte
     exact UInt8.toNat_inj.1 hbyte
    have t1:f1.bytes.data.toList.take (f1.bits.toNat / 8 + 1) = f1.bytes.data.toList:=List.take_of_length_le (by omega)
    have t2:f2.bytes.data.toList.take (f1.bits.toNat / 8 + 1) = f2.bytes.data.toList:=List.take_of_length_le (by omega)
    rw [List.take_succ_eq_append_getElem q1] at t1
    rw [List.take_succ_eq_append_getElem q2] at t2
    refine ByteArray.ext (Array.ext' ?_)
    rw [← t1,← t2,et,hb2]
   next e2=>exact absurd h e2
 next e=>exact absurd h e
end Go.Proofs.YtfbggmbmgohiiaaGreat.tm
namespace Go.Proofs.YtfbggmbmgohiiaaGreat.tm
open names
theorem of_eqB {α:Type} {a b:α} (h:eqB a b = true):a = b:=@of_decide_eq_true _ (Classical.propDecidable _) h
def FT:(n:Nat)→Tm n→Prop
 | 0,_=>True
 | n + 1,t=>formedT t = true
theorem ft_items {n:Nat} {t:Tm (n + 1)} (h:formedT t = true):∀ x ∈ t.items,FT n x:=by
 intro x hx
 cases n with
 | zero=>trivial
 | succ n =>
  unfold formedT at h
  simp only [Bool.and_eq_true] at h
  have h2:=h.2
  unfold formedL at h2
  rw [List.all_eq_true] at h2
  have:=h2 x hx
  show formedT x = true
  unfold formedT
  exact this
theorem ft_ok {n:Nat} {t:Tm (n + 1)} (h:formedT t = true):inB t.f.kind 0 10 = true∧okF t.f t.items.length (lastK n t.items) = true∧({ bareF t.f with kind:=0 }:TF) = zeroF∧(if t.f.kind = 4∨t.f.kind = 7∨t.f.kind = 9 then 0 else t.items.length) = 0:=by
 unfold formedT okT bareOK at h
 simp only [Bool.and_eq_true] at h
 obtain ⟨⟨h1,h2,h3,h4⟩,_⟩:=h
 exact ⟨h1,h2,of_eqB h3,of_decide_eq_true h4⟩
theorem ft_bits {n:Nat} {t:Tm (n + 1)} (h:formedT t = true) (hk:t.f.kind = 10):BitsOK t.f:=by
 obtain ⟨_,h2,_,_⟩:=ft_ok h
 unfold okF at h2
 rw [if_neg (by omega),if_neg (by omega),if_neg (by omega),if_neg (by omega),if_neg (by omega),if_neg (by omega),if_neg (by omega),if_pos hk] at h2
 unfold okBits inB at h2
 simp only [Bool.and_eq_true,decide_eq_true_eq] at h2
 exact ⟨h2.1.1.1,h2.1.1.2,h2.1.2,h2.2⟩
theorem last_kd {n:Nat} (l:List (Tm n)) (a:Tm n):lastK n (a :: l) = kdT n ((a :: l).getLast (by simp)):=by
 cases n with
 | zero=>exact (nomatch (show Empty from a))
 | succ n =>
  show (((a :: l).getLast?).map (fun t:Tm (n + 1)=>t.f.kind)).getD 0 = _
  rw [List.getLast?_eq_some_getLast (List.cons_ne_nil a l)];rfl
theorem good_of {α:Type} {S:α→Prop} {kd:α→Int}:∀ (l:List α) (a:α),(∀ x ∈ a :: l,S x)→kd ((a :: l).getLast (by simp)) ≠ 9→GoodC S kd a l
 | [],a,h,hk=>⟨h a (by simp),hk⟩
 | b :: l,a,h,hk=>⟨h a (by simp),good_of l b (fun x hx=>h x (by simp [hx])) (by rw [List.getLast_cons (by simp)] at hk;exact hk)⟩
theorem ft_list {n:Nat} {t:Tm (n + 1)} (h:formedT t = true) (hk:t.f.kind = 9):2 ≤ t.items.length∧GoodL (FT n) (kdT n) t.items:=by
 obtain ⟨_,h2,_,_⟩:=ft_ok h
 have h3:=ft_items h
 unfold okF at h2
 rw [if_neg (by omega),if_neg (by omega),if_neg (by omega),if_neg (by omega),if_neg (by omega),if_neg (by omega),if_pos hk] at h2
 simp only [Bool.and_eq_true,decide_eq_true_eq] at h2
 refine ⟨h2.1,?_⟩
 generalize t.items = l at *
 cases l with
 | nil=>simp at h2
 | cons a l=>exact good_of l a h3 (by rw [← last_kd];exact h2.2)
theorem head_then (f1 f2:TF):headC f1 f2 = thenC (fun f1 f2:TF=>cmpB f1.name f2.name) (thenC (fun f1 f2:TF=>cmpB f1.func f2.func) (thenC (fun f1 f2:TF=>cmpI f1.gen f2.gen) (thenC (fun f1 f2:TF=>cmpI f1.int f2.int) (fun f1 f2:TF=>cmpI f1.arity f2.arity)))) f1 f2:=by
 unfold headC thenC firstL firstL firstL firstL firstL firstL
 dsimp only
 repeat (split <;> try rfl)
 all_goals (rename_i h;exact h.symm)
theorem tpHead:TP (fun _=>True) headC:=by
 have e:headC = thenC (fun f1 f2:TF=>cmpB f1.name f2.name) (thenC (fun f1 f2:TF=>cmpB f1.func f2.func) (thenC (fun f1 f2:TF=>cmpI f1.gen f2.gen) (thenC (fun f1 f2:TF=>cmpI f1.int f2.int) (fun f1 f2:TF=>cmpI f1.arity f2.arity)))):=by funext f1 f2;exact head_then f1 f2
 rw [e]
 exact TP.then (tpB.comap (fun f:TF=>f.name)) (TP.then (tpB.comap (fun f:TF=>f.func)) (TP.then (tpI.comap (fun f:TF=>f.gen)) (TP.then (tpI.comap (fun f:TF=>f.int)) (tpI.comap (fun f:TF=>f.arity)))))
theorem head_eq {f1 f2:TF} (h:headC f1 f2 = 0):f1.name = f2.name∧f1.func = f2.func∧f1.gen = f2.gen∧f1.int = f2.int∧f1.arity = f2.arity:=by
 rw [head_then] at h
 unfold thenC at h
 split at h
 next e1 =>
  split at h
  next e2 =>
   split at h
   next e3 =>
    split at h
    next e4=>exact ⟨cmpB_eq e1,cmpB_eq e2,cmpI_z.1 e3,cmpI_z.1 e4,cmpI_z.1 h⟩
    next e=>exact absurd h e
   next e=>exact absurd h e
  next e=>exact absurd h e
 next e=>exact absurd h e
def bodyC {n:Nat} (k:Int) (a b:Tm (n + 1)):Int :=
 if k = 7 then itemsC (cmpTm n) a.items b.items else if k = 9 then listsC (kdT n) (cmpTm n) a.items b.items else if k = 10 then bitsC a.f b.f else thenC (fun a b:Tm (n + 1)=>headC a.f b.f) (fun a b=>itemsC (cmpTm n) a.items b.items) a b
theorem cmp_body {n:Nat} (a b:Tm (n + 1)):cmpTm (n + 1) a b = if a.f.kind = b.f.kind then bodyC a.f.kind a b else cmpI a.f.kind b.f.kind:=rfl
structure OrdT (n:Nat):Prop where
 tp:TP (FT n) (cmpTm n)
 kd:∀ a b,kdT n a ≠ kdT n b→cmpTm n a b = cmpI (kdT n a) (kdT n b)
 eq:∀ a b,FT n a→FT n b→cmpTm n a b = 0→a = b
theorem tf_eq {f1 f2:TF} (hk:f1.kind = f2.kind) (z1:({ bareF f1 with kind:=0 }:TF) = zeroF) (z2:({ bareF f2 with kind:=0 }:TF) = zeroF)
 (hh:f1.kind ≠ 7→f1.kind ≠ 9→f1.kind ≠ 10→f1.name = f2.name∧f1.func = f2.func∧f1.gen = f2.gen∧f1.int = f2.int∧f1.arity = f2.arity) (hb:f1.kind = 10→f1.bits = f2.bits∧f1.bytes = f2.bytes):f1 = f2:=by
 obtain ⟨k1,i1,g1,n1,fn1,a1,b1,s1⟩:=f1
 obtain ⟨k2,i2,g2,n2,fn2,a2,b2,s2⟩:=f2
 dsimp only at hk hh hb
 subst hk
 unfold bareF zeroF at z1 z2
 dsimp only at z1 z2
 by_cases h10:k1 = 10
 ·subst h10
  obtain ⟨rfl,rfl⟩:=hb rfl
  simp at z1 z2
  simp [z1,z2]
 ·by_cases h:k1 = 7∨k1 = 9
  ·have n1:¬ k1 = 1:=by omega
   have n2:¬ k1 = 2:=by omega
   have n3:¬ (k1 = 3∨k1 = 6):=by omega
   have n4:¬ k1 = 4:=by omega
   have n5:¬ k1 = 5:=by omega
   rw [if_neg n1,if_neg n2,if_neg n3,if_neg n4,if_neg n5,if_neg h10] at z1 z2
   simp at z1 z2
   simp [z1,z2]
  ·obtain ⟨rfl,rfl,rfl,rfl,rfl⟩:=hh (by omega) (by omega) h10
   have eb:b1 = ⟨#[]⟩∧s1 = 0:=by
    clear z2
    repeat' split at z1
    all_goals (simp at z1;simp [z1])
   have eb2:b2 = ⟨#[]⟩∧s2 = 0:=by
    clear z1
    repeat' split at z2
    all_goals (simp at z2;simp [z2])
   simp [eb,eb2]
theorem body_tp {n:Nat} (ih:OrdT n) (k:Int):TP (fun t:Tm (n + 1)=>formedT t = true∧t.f.kind = k) (bodyC k):=by
 have hI:TP (fun t:Tm (n + 1)=>formedT t = true∧t.f.kind = k) (fun a b:Tm (n + 1)=>itemsC (cmpTm n) a.items b.items):=(ih.tp.items.comap (fun t:Tm (n + 1)=>t.items)).mono (fun t h=>ft_items h.1)
 by_cases h7:k = 7
 ·have e:bodyC k = (fun a b:Tm (n + 1)=>itemsC (cmpTm n) a.items b.items):=by funext a b;unfold bodyC;rw [if_pos h7]
  rw [e];exact hI
 by_cases h9:k = 9
 ·have e:bodyC k = (fun a b:Tm (n + 1)=>listsC (kdT n) (cmpTm n) a.items b.items):=by funext a b;unfold bodyC;rw [if_neg h7,if_pos h9]
  rw [e]
  refine ((ih.tp.lists ih.kd).comap (fun t:Tm (n + 1)=>t.items)).mono (fun t h=>?_)
  obtain ⟨h1,h2⟩:=ft_list h.1 (by omega)
  exact ⟨fun e=>by rw [e] at h1;simp at h1,h2⟩
 by_cases h10:k = 10
 ·have e:bodyC k = (fun a b:Tm (n + 1)=>bitsC a.f b.f):=by funext a b;unfold bodyC;rw [if_neg h7,if_neg h9,if_pos h10]
  rw [e]
  exact (tpBits.comap (fun t:Tm (n + 1)=>t.f)).mono (fun t h=>ft_bits h.1 (by omega))
 ·have e:bodyC k = thenC (fun a b:Tm (n + 1)=>headC a.f b.f) (fun a b=>itemsC (cmpTm n) a.items b.items):=by funext a b;unfold bodyC;rw [if_neg h7,if_neg h9,if_neg h10]
  rw [e]
  exact TP.then ((tpHead.comap (fun t:Tm (n + 1)=>t.f)).mono (fun _ _=>trivial)) hI
theorem body_eq {n:Nat} (ih:OrdT n) (a b:Tm (n + 1)) (ha:formedT a = true) (hb:formedT b = true) (hk:a.f.kind = b.f.kind) (h:bodyC a.f.kind a b = 0):a = b:=by
 obtain ⟨a1,a2,a3,a4⟩:=ft_ok ha
 obtain ⟨b1,b2,b3,b4⟩:=ft_ok hb
 have hI:itemsC (cmpTm n) a.items b.items = 0→a.items = b.items:=fun h=>items_eq _ _ (fun x hx y hy=>ih.eq x y (ft_items ha x hx) (ft_items hb y hy)) h
 unfold bodyC at h
 by_cases h7:a.f.kind = 7
 ·rw [if_pos h7] at h
  exact Tm.ext (tf_eq hk a3 b3 (fun x=>absurd h7 x) (fun x=>by omega)) (hI h)
 rw [if_neg h7] at h
 by_cases h9:a.f.kind = 9
 ·rw [if_pos h9] at h
  have l1:=ft_list ha h9
  have l2:=ft_list hb (by omega)
  refine Tm.ext (tf_eq hk a3 b3 (fun _ x=>absurd h9 x) (fun x=>by omega)) ?_
  clear hI a1 a2 a3 a4 b1 b2 b3 b4
  generalize a.items = l at *
  generalize b.items = m at *
  cases l with
  | nil=>simp at l1
  | cons x l=>cases m with
   | nil=>simp at l2
   | cons y m =>
    obtain ⟨e1,e2⟩:=cells_eq (S:=FT n) ih.eq l x m y l1.2 l2.2 h
    rw [e1,e2]
 rw [if_neg h9] at h
 by_cases h10:a.f.kind = 10
 ·rw [if_pos h10] at h
  rw [if_neg (by omega)] at a4 b4
  refine Tm.ext (tf_eq hk a3 b3 (fun _ _ x=>absurd h10 x) (fun _=>bits_eq _ _ (ft_bits ha h10) (ft_bits hb (by omega)) h)) ?_
  rw [List.length_eq_zero_iff.1 a4,List.length_eq_zero_iff.1 b4]
 rw [if_neg h10] at h
 unfold thenC at h
 split at h
 next e=>exact Tm.ext (tf_eq hk a3 b3 (fun _ _ _=>head_eq e) (fun x=>absurd x h10)) (hI h)
 next e=>exact absurd h e
theorem ordT:∀ n,OrdT n
 | 0=>⟨⟨fun a=>(nomatch (show Empty from a)),fun a=>(nomatch (show Empty from a)),fun a=>(nomatch (show Empty from a))⟩,fun a=>(nomatch (show Empty from a)),fun a=>(nomatch (show Empty from a))⟩
 | n + 1=>by
  have ih:=ordT n
  refine ⟨⟨fun a b=>?_,fun a b=>?_,fun a b d ha hb hd x y=>?_⟩,fun a b h=>?_,fun a b ha hb h=>?_⟩
  ·rw [cmp_body];split
   ·exact (body_tp ih _).range a b
   ·exact cmpI_range _ _
  ·rw [cmp_body,cmp_body]
   by_cases e:a.f.kind = b.f.kind
   ·rw [if_pos e,if_pos e.symm,← e];exact (body_tp ih _).anti a b
   ·rw [if_neg e,if_neg (Ne.symm e)];exact cmpI_anti _ _
  ·have k1:a.f.kind ≤ b.f.kind:=by
    rw [cmp_body] at x
    split at x
    ·omega
    ·exact cmpI_le.1 x
   have k2:b.f.kind ≤ d.f.kind:=by
    rw [cmp_body] at y
    split at y
    ·omega
    ·exact cmpI_le.1 y
   rw [cmp_body] at x y ⊢
   by_cases e:a.f.kind = d.f.kind
   ·have e1:a.f.kind = b.f.kind:=by omega
    have e2:b.f.kind = d.f.kind:=by omega
    rw [if_pos e1] at x
    rw [if_pos e2,← e1] at y
    rw [if_pos e]
    exact (body_tp ih a.f.kind).trans a b d ⟨ha,rfl⟩ ⟨hb,e1.symm⟩ ⟨hd,e.symm⟩ x y
   ·rw [if_neg e];exact cmpI_le.2 (by omega)
  ·rw [cmp_body,if_neg (show ¬ a.f.kind = b.f.kind from h)];rfl
  ·rw [cmp_body] at h
   split at h
   next e=>exact body_eq ih a b ha hb e h
   next e=>exact absurd (cmpI_z.1 h) e
end Go.Proofs.YtfbggmbmgohiiaaGreat.tm
namespace Go.Proofs.YtfbggmbmgohiiaaGreat.tb
open Go.RowKit mem tm names
def byteOf (x:Int):UInt8:=UInt8.ofNat (x % 256).toNat
theorem byteOf_nat (x:Int):((byteOf x).toNat:Int) = x % 256:=by
 unfold byteOf
 have h:(x % 256).toNat < 256:=by omega
 rw [UInt8.toNat_ofNat_of_lt' (by exact h)]
 omega
theorem wrap8 (x:Int):IntKind.u8.wrap x = ((byteOf x).toNat:Int):=by
 rw [byteOf_nat]
 unfold IntKind.wrap
 have h1:IntKind.u8.signed = false:=rfl
 have h2:((2:Int) ^ IntKind.u8.bits) = 256:=rfl
 simp only [h1,h2]
 simp
def numB (n:Int) (k:Nat):List UInt8:=(List.range k).map (fun i=>byteOf (n / 256 ^ (k - 1 - i)))
theorem numB_len (n:Int) (k:Nat):(numB n k).length = k:=by simp [numB]
def strB (s:ByteArray):List UInt8:=s.data.toList
theorem strB_len (s:ByteArray):(strB s).length = s.size:=by simp [strB]
def atomB (s:ByteArray):List UInt8:=119 :: byteOf s.size :: strB s
theorem atomB_len (s:ByteArray):(atomB s).length = s.size + 2:=by simp [atomB,strB_len]
def digB (u:Nat):List UInt8:=if h:u = 0 then [] else byteOf u :: digB (u / 256)
termination_by u
decreasing_by omega
theorem digB_0:digB 0 = []:=by rw [digB];simp
theorem digB_s {u:Nat} (h:u ≠ 0):digB u = byteOf u :: digB (u / 256):=by rw [digB];simp [h]
theorem digB_len:∀ (k u:Nat),u < 256 ^ k→(digB u).length ≤ k:=by
 intro k
 induction k with
 | zero => intro u h; obtain rfl : u = 0 := by simpa using h
           rw [digB_0];simp
 | succ k ih =>
  intro u h
  by_cases h0:u = 0
  ·subst h0;rw [digB_0];simp
  ·rw [digB_s h0]
   have:=ih (u / 256) (by rw [Nat.pow_succ] at h;omega)
   simp;omega
theorem u64_rng (n:Int):0 ≤ IntKind.u64.wrap n∧IntKind.u64.wrap n ≤ 18446744073709551615:=by
 unfold IntKind.wrap
 have h1:IntKind.u64.signed = false:=rfl
 have h2:((2:Int) ^ IntKind.u64.bits) = 18446744073709551616:=rfl
 simp only [h1,h2]
 simp
 omega
def magI (n:Int):Int:=if n < 0 then IntKind.u64.wrap (-IntKind.u64.wrap n) else IntKind.u64.wrap n
def magN (n:Int):Nat:=(magI n).toNat
theorem magN_eq (n:Int):((magN n:Nat):Int) = magI n:=by
 unfold magN magI
 have a:=u64_rng n
 have b:=u64_rng (-IntKind.u64.wrap n)
 split <;> omega
theorem magN_lt (n:Int):magN n < 256 ^ 8:=by
 show _ < 18446744073709551616
 unfold magN magI
 have a:=u64_rng n
 have b:=u64_rng (-IntKind.u64.wrap n)
 split <;> omega
def intB (n:Int):List UInt8 :=
 if 0 ≤ n∧n < 256 then [97,byteOf n]
 else if -2147483648 ≤ n∧n ≤ 2147483647 then 98 :: numB n 4
 else 110 :: byteOf (digB (magN n)).length :: (if n < 0 then 1 else 0) :: digB (magN n)
def bitsB (f:TF):List UInt8 :=
 if f.bits.tmod 8 = 0 then 109 :: (numB f.bytes.size 4 ++ strB f.bytes)
 else 77 :: (numB f.bytes.size 4 ++ (byteOf (f.bits.tmod 8) :: strB f.bytes))
def headB (f:TF) (m:Nat):List UInt8 :=
 if f.kind = 1 then intB f.int
 else if f.kind = 2 then atomB f.name
 else if f.kind = 7 then [104,byteOf m]
 else if f.kind = 8 then [106]
 else if f.kind = 9 then 108 :: numB ((m:Int) - 1) 4
 else if f.kind = 10 then bitsB f
 else if f.kind = 6 then 88 :: (atomB f.name ++ (numB f.int 4 ++ (numB 0 4 ++ numB f.gen 4)))
 else if f.kind = 3 then 90 :: 0 :: 1 :: (atomB f.name ++ (numB f.gen 4 ++ numB f.int 4))
 else if f.kind = 5 then 113 :: (atomB f.name ++ (atomB f.func ++ intB f.arity))
 else if f.kind = 4 then 112 :: byteOf f.arity :: (numB f.int 2 ++ (byteOf m :: (atomB f.name ++ numB f.gen 4)))
 else []
def encL:(n:Nat)→List (Tm n)→List UInt8
 | 0,_=>[]
 | n + 1,l=>l.flatMap (fun t=>headB t.f t.items.length ++ encL n t.items)
def encT {n:Nat} (t:Tm (n + 1)):List UInt8:=headB t.f t.items.length ++ encL n t.items
theorem encL_nil:∀ n,encL n [] = []
 | 0=>rfl
 | n + 1=>rfl
theorem encL_cons {n:Nat} (t:Tm (n + 1)) (l:List (Tm (n + 1))):encL (n + 1) (t :: l) = encT t ++ encL (n + 1) l:=by simp [encL,encT]
theorem encL_take {n:Nat} (l:List (Tm (n + 1))) (k:Nat) (h:k < l.length):encL (n + 1) (l.take (k + 1)) = encL (n + 1) (l.take k) ++ encT l[k]:=by
 rw [← List.take_append_getElem h]
 unfold encL encT
 rw [List.flatMap_append]
 simp only [List.flatMap_cons,List.flatMap_nil,List.append_nil]
theorem vName_size {s:ByteArray} (h:vName s = true):s.size ≤ 255:=by
 unfold vName at h
 simp only [Bool.and_eq_true,decide_eq_true_eq] at h
 omega
theorem intB_len (n:Int):(intB n).length ≤ 11:=by
 unfold intB
 split
 ·simp
 ·split
  ·simp [numB_len]
  ·have:=digB_len 8 (magN n) (magN_lt n)
   simp;omega
theorem headB_len {n:Nat} {t:Tm (n + 1)} (h:formedT t = true):(headB t.f t.items.length).length ≤ 3000:=by
 obtain ⟨h1,h2,h3,h4⟩:=ft_ok h
 have hi':=intB_len t.f.int
 unfold headB
 unfold okF at h2
 by_cases k1:t.f.kind = 1
 ·rw [if_pos k1];omega
 by_cases k2:t.f.kind = 2
 ·rw [if_neg k1,if_pos k2,atomB_len]
  simp [k1,k2] at h2
  have:=vName_size h2;omega
 by_cases k7:t.f.kind = 7
 ·rw [if_neg k1,if_neg k2,if_pos k7];simp
 by_cases k8:t.f.kind = 8
 ·rw [if_neg k1,if_neg k2,if_neg k7,if_pos k8];simp
 by_cases k9:t.f.kind = 9
 ·rw [if_neg k1,if_neg k2,if_neg k7,if_neg k8,if_pos k9];simp [numB_len]
 by_cases k10:t.f.kind = 10
 ·rw [if_neg k1,if_neg k2,if_neg k7,if_neg k8,if_neg k9,if_pos k10]
  rw [k10] at h2
  simp [okBits,inB] at h2
  have e:(t.f.bytes.size:Int) = (t.f.bits + 7) / 8:=h2.1.2
  have hb:=h2.1.1
  unfold bitsB
  split <;> simp [numB_len,strB_len] <;> omega
 by_cases k6:t.f.kind = 6
 ·rw [if_neg k1,if_neg k2,if_neg k7,if_neg k8,if_neg k9,if_neg k10,if_pos k6]
  rw [k6] at h2
  simp at h2
  have:=vName_size h2.2.2
  simp [numB_len,atomB_len];omega
 by_cases k3:t.f.kind = 3
 ·rw [if_neg k1,if_neg k2,if_neg k7,if_neg k8,if_neg k9,if_neg k10,if_neg k6,if_pos k3]
  rw [k3] at h2
  simp at h2
  have:=vName_size h2.2.2
  simp [numB_len,atomB_len];omega
 by_cases k5:t.f.kind = 5
 ·rw [if_neg k1,if_neg k2,if_neg k7,if_neg k8,if_neg k9,if_neg k10,if_neg k6,if_neg k3,if_pos k5]
  rw [k5] at h2
  simp [inB] at h2
  have a:=vName_size h2.1
  have b:=vName_size h2.2.1
  have c:=intB_len t.f.arity
  simp [numB_len,atomB_len];omega
 by_cases k4:t.f.kind = 4
 ·rw [if_neg k1,if_neg k2,if_neg k7,if_neg k8,if_neg k9,if_neg k10,if_neg k6,if_neg k3,if_neg k5,if_pos k4]
  rw [k4] at h2
  simp at h2
  have:=vName_size h2.2.2.1
  simp [numB_len,atomB_len];omega
 simp [k1,k2,k7,k8,k9,k10,k6,k3,k5,k4]
def crcStep (s:Int):Int:=if s % 2 = 1 then bits .xor .u32 (s / 2) 3988292384 else s / 2
def crcN:Nat→Int→Int
 | 0,s=>s
 | k + 1,s=>crcN k (crcStep s)
def crcB (s:Int) (c:UInt8):Int:=crcN 8 (bits .xor .u32 s c.toNat)
def crcL (l:List UInt8):Int:=l.foldl crcB 4294967295
def hashB (l:List UInt8):Int:=bits .xor .u32 (crcL l) 4294967295
theorem wrapU32 (n:Nat) (h:n < 4294967296):IntKind.u32.wrap (n:Int) = n:=by
 unfold IntKind.wrap
 have h1:IntKind.u32.signed = false:=rfl
 have h2:((2:Int) ^ IntKind.u32.bits) = 4294967296:=rfl
 simp only [h1,h2]
 simp;omega
theorem xor_rng (a b:Int):0 ≤ bits .xor .u32 a b∧bits .xor .u32 a b ≤ 4294967295:=by
 unfold bits
 dsimp only
 have:=(BitVec.ofInt IntKind.u32.bits a ^^^ BitVec.ofInt IntKind.u32.bits b).isLt
 have e:2 ^ IntKind.u32.bits = 4294967296:=rfl
 rw [wrapU32 _ (by omega)]
 omega
theorem xor_comm (a b:Int):bits .xor .u32 a b = bits .xor .u32 b a:=by unfold bits;simp only [BitVec.xor_comm]
theorem nat32 (a:Int) (h0:0 ≤ a) (h1:a ≤ 4294967295):(BitVec.ofInt IntKind.u32.bits a).toNat = a.toNat:=by
 show (BitVec.ofInt 32 a).toNat = _
 rw [BitVec.toNat_ofInt]
 omega
theorem xor_zero (a:Int) (h0:0 ≤ a) (h1:a ≤ 4294967295):bits .xor .u32 a 0 = a:=by
 unfold bits
 dsimp only
 rw [BitVec.toNat_xor,nat32 a h0 h1,nat32 0 (by decide) (by decide)]
 simp only [Int.toNat_zero,Nat.xor_zero]
 rw [wrapU32 _ (by omega)]
 omega
theorem and_one (a:Int) (h0:0 ≤ a) (h1:a ≤ 4294967295):bits .and .u32 a 1 = a % 2:=by
 unfold bits
 dsimp only
 rw [BitVec.toNat_and,nat32 a h0 h1,nat32 1 (by decide) (by decide)]
 have e:a.toNat &&& (1:Int).toNat = a.toNat % 2:=Nat.and_one_is_mod _
 rw [e,wrapU32 _ (by omega)]
 omega
theorem crc_even {s:Int} (h0:0 ≤ s) (h1:s ≤ 4294967295) (h:s % 2 = 0):bits .xor .u32 (s / 2) 0 = crcStep s:=by
 unfold crcStep
 rw [if_neg (by omega),xor_zero _ (by omega) (by omega)]
theorem crc_odd {s:Int} (h:s % 2 = 1):bits .xor .u32 (s / 2) 3988292384 = crcStep s:=by
 unfold crcStep
 rw [if_pos h]
theorem crcStep_rng {s:Int} (h0:0 ≤ s) (h1:s ≤ 4294967295):0 ≤ crcStep s∧crcStep s ≤ 4294967295:=by
 unfold crcStep
 split
 ·exact xor_rng _ _
 ·omega
theorem crcN_snoc:∀ (k:Nat) (s:Int),crcN (k + 1) s = crcStep (crcN k s)
 | 0,s=>rfl
 | k + 1,s=>by
  show crcN (k + 1) (crcStep s) = _
  rw [crcN_snoc k (crcStep s)]
  rfl
theorem crcN_rng:∀ (k:Nat) {s:Int},0 ≤ s→s ≤ 4294967295→0 ≤ crcN k s∧crcN k s ≤ 4294967295
 | 0,s,h0,h1=>⟨h0,h1⟩
 | k + 1,s,h0,h1=>crcN_rng k (crcStep_rng h0 h1).1 (crcStep_rng h0 h1).2
theorem crcL_rng (l:List UInt8):0 ≤ crcL l∧crcL l ≤ 4294967295:=by
 unfold crcL
 have:∀ (l:List UInt8) (s:Int),0 ≤ s→s ≤ 4294967295→0 ≤ l.foldl crcB s∧l.foldl crcB s ≤ 4294967295:=by
  intro l
  induction l with
  | nil=>intro s h0 h1;exact ⟨h0,h1⟩
  | cons c l ih =>
   intro s h0 h1
   have:=xor_rng s c.toNat
   have:=crcN_rng 8 this.1 this.2
   exact ih _ this.1 this.2
 exact this l _ (by decide) (by decide)
theorem crcL_take (l:List UInt8) (k:Nat) (h:k < l.length):crcL (l.take (k + 1)) = crcB (crcL (l.take k)) l[k]:=by
 unfold crcL
 rw [← List.take_append_getElem h,List.foldl_append]
 rfl
end Go.Proofs.YtfbggmbmgohiiaaGreat.tb
namespace Go.Proofs.YtfbggmbmgohiiaaGreat.tm
open Go.RowKit mem names
theorem cmpI_0 {a b:Int} (h:a = b):cmpI a b = 0:=by subst h;unfold cmpI;simp
theorem cmpI_ne {a b:Int} (h:a ≠ b):cmpI a b ≠ 0:=by unfold cmpI;split <;> (try split) <;> omega
theorem itemsW {n:Nat} (ih:∀ m,n = m + 1→CmpS m) (w:World) (B:Nat) (v1 v2:Value) (l1 l2:List (Tm n)) (hB:B ≤ w.heap.size) (h1:ItemsAt w B n v1 l1) (h2:ItemsAt w B n v2 l2) (f1:formedL n l1 = true) (f2:formedL n l2 = true) :
 Calls Tryz.prog 131 #[v1,v2] w (IPostC (itemsC (cmpTm n) l1 l2) w):=by
 have hE:=fun h=>eachW ih w B v1 v2 l1 l2 hB h1 h2 f1 f2 h
 obtain ⟨p1,c1,rfl,hc1,hm1⟩:=h1.shape
 obtain ⟨p2,c2,rfl,hc2,hm2⟩:=h2.shape
 have HE:=Lib.hid hE
 have hC:=fun W=>cmpInt l1.length l2.length W
 have hr:itemsC (cmpTm n) l1 l2 = (if l1.length = l2.length then eachC (cmpTm n) l1 l2 else cmpI l1.length l2.length):=rfl
 rw [hr]
 clear ih h1 h2 f1 f2 hE hr
 generalize eachC (cmpTm n) l1 l2 = r at *
 unfold IPostC at HE
 by_cases h:l1.length = l2.length
 ·rw [if_pos h]
  rw [cmpI_0 (by omega)] at hC
  have HH:=Lib.hid (HE.out h)
  have HC:=Lib.hid hC
  clear HE hC h
  generalize l1.length = a at *
  generalize l2.length = b at *
  go_enter Tryz.func131,Tryz.ntmps131
  go_wp2_with fail
  refine (HC.out _).mono ?_
  rintro e w' ⟨rfl,rfl⟩
  go_wp2_with fail
  refine HH.out.mono ?_
  rintro e w2 ⟨rfl,hb⟩
  go_wp2_with fail
  go_ret
  exact ⟨rfl,hb⟩
 ·rw [if_neg h]
  have hne:=cmpI_ne (a:=(l1.length:Int)) (b:=l2.length) (by omega)
  have HC:=Lib.hid hC
  clear HE hC h
  generalize cmpI (l1.length:Int) l2.length = x at *
  have q:(x != 0) = true:=by simp [hne]
  clear hne
  generalize l1.length = a at *
  generalize l2.length = b at *
  go_enter Tryz.func131,Tryz.ntmps131
  go_wp2_with fail
  refine (HC.out _).mono ?_
  rintro e w' ⟨rfl,rfl⟩
  go_wp2_with fail
  go_ret
  exact ⟨rfl,Below.refl _ _⟩
theorem lists_step {α:Type} (kd:α→Int) (c:α→α→Int) (a x:α) (l:List α) (b y:α) (m:List α):listsC kd c (a :: x :: l) (b :: y :: m) = if c a b = 0 then listsC kd c (x :: l) (y :: m) else c a b:=by
 show cellsC kd c a (x :: l) b (y :: m) = if c a b = 0 then cellsC kd c x l y m else c a b
 rw [cellsC]
theorem lists_at {α:Type} (kd:α→Int) (c:α→α→Int) (l m:List α) (k:Nat) (h1:k + 1 < l.length) (h2:k + 1 < m.length) :
 (c l[k] m[k] ≠ 0→listsC kd c (l.drop k) (m.drop k) = c l[k] m[k]) ∧
 (c l[k] m[k] = 0→listsC kd c (l.drop k) (m.drop k) = listsC kd c (l.drop (k + 1)) (m.drop (k + 1))) ∧
 (l.length = k + 2→m.length = k + 2→listsC kd c (l.drop (k + 1)) (m.drop (k + 1)) = c l[k + 1] m[k + 1]) ∧
 (l.length = k + 2→m.length ≠ k + 2→listsC kd c (l.drop (k + 1)) (m.drop (k + 1)) = cmpI (kd l[k + 1]) 9) ∧
 (l.length ≠ k + 2→m.length = k + 2→listsC kd c (l.drop (k + 1)) (m.drop (k + 1)) = cmpI 9 (kd m[k + 1])):=by
 have e1:l.drop k = l[k] :: l.drop (k + 1):=List.drop_eq_getElem_cons (by omega)
 have e2:m.drop k = m[k] :: m.drop (k + 1):=List.drop_eq_getElem_cons (by omega)
 have e3:l.drop (k + 1) = l[k + 1] :: l.drop (k + 2):=List.drop_eq_getElem_cons h1
 have e4:m.drop (k + 1) = m[k + 1] :: m.drop (k + 2):=List.drop_eq_getElem_cons h2
 refine ⟨fun h=>?_,fun h=>?_,fun ha hb=>?_,fun ha hb=>?_,fun ha hb=>?_⟩
 ·rw [e1,e2,e3,e4,lists_step,if_neg h]
 ·rw [e1,e2,e3,e4,lists_step,if_pos h]
 ·rw [e3,e4,List.drop_of_length_le (by omega),List.drop_of_length_le (by omega)];rfl
 ·have e6:m.drop (k + 2) = m[k + 2]'(by omega) :: m.drop (k + 3):=List.drop_eq_getElem_cons (by omega)
  rw [e3,e4,List.drop_of_length_le (by omega),e6];rfl
 ·have e6:l.drop (k + 2) = l[k + 2]'(by omega) :: l.drop (k + 3):=List.drop_eq_getElem_cons (by omega)
  rw [e3,e4,List.drop_of_length_le (l:=m) (by omega),e6];rfl
end Go.Proofs.YtfbggmbmgohiiaaGreat.tm
