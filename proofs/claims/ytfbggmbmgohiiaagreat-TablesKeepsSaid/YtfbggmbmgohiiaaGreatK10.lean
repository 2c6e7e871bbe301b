/- Texts of this seat, one behind the other: OrB, OrC, TbA, TbB, TcT. No condition beyond theirs. -/
import Derived.Test.YtfbggmbmgohiiaaGreatK09
import Derived.Lib.UnsafeStr
import Derived.Lib.AppendStr
import Derived.Lib.Builder
import Derived.Lib.OthersKept
import Derived.Deep.RegionHeld3
import Derived.BigRegion
import Derived.Says
import Derived.Deep.LoopGhost
import Derived.Deep.Cut
import Derived.Deep.CutRange
import Derived.Deep.CutBlock
import Derived.Deep.RegionLaw
import Derived.Deep.MidRow
import Derived.StillTailTactics
import Derived.Laws.Cover3
import Derived.Laws.ResultCell
import Derived.Test.YtfbggmbmgohiiaaGreatK00
import Derived.Test.YtfbggmbmgohiiaaGreatK02
set_option linter.unusedSimpArgs false
set_option linter.unusedVariables false
set_option maxHeartbeats 4000000
set_option maxRecDepth 100000
namespace Go.Proofs.YtfbggmbmgohiiaaGreat.tm
theorem getD_in {α:Type} {l:List α} {i:Nat} {d:α} (h:i < l.length):l.getD i d = l[i]:=by rw [List.getD_eq_getElem?_getD,List.getElem?_eq_getElem h];rfl
def lexN (x y:Nat→Int):Nat→Int
 | 0=>0
 | n + 1=>if lexN x y n = 0 then cmpI (x n) (y n) else lexN x y n
theorem lexN_front (x y:Nat→Int):∀ n,lexN x y (n + 1) = if cmpI (x 0) (y 0) = 0 then lexN (fun i=>x (i + 1)) (fun i=>y (i + 1)) n else cmpI (x 0) (y 0)
 | 0=>by
  show (if (0:Int) = 0 then cmpI (x 0) (y 0) else 0) = _
  rw [if_pos rfl]
  split
  next e=>rw [e];rfl
  next=>rfl
 | n + 1=>by
  rw [lexN,lexN_front x y n]
  split
  next e =>
   show (if _ = 0 then _ else _) = lexN _ _ (n + 1)
   rw [lexN]
  next e=>first | rfl | rw [if_neg e]
theorem lexN_lex:∀ (x y:Nat→Int) (p q:Nat),lexG cmpI ((List.range p).map x) ((List.range q).map y) = if lexN x y (min p q) = 0 then cmpI p q else lexN x y (min p q)
 | x,y,0,0=>rfl
 | x,y,0,q + 1=>by
  rw [Nat.zero_min,List.range_succ_eq_map]
  show (-1:Int) = if (0:Int) = 0 then _ else _
  rw [if_pos rfl];unfold cmpI;rw [if_pos (by omega)]
 | x,y,p + 1,0=>by
  rw [Nat.min_zero,List.range_succ_eq_map]
  show (1:Int) = if (0:Int) = 0 then _ else _
  rw [if_pos rfl];unfold cmpI;rw [if_neg (by omega),if_pos (by omega)]
 | x,y,p + 1,q + 1=>by
  have ih:=lexN_lex (fun i=>x (i + 1)) (fun i=>y (i + 1)) p q
  rw [show min (p + 1) (q + 1) = min p q + 1 by omega,lexN_front,List.range_succ_eq_map,List.range_succ_eq_map,List.map_cons,List.map_cons,lexG,List.map_map,List.map_map]
  have ec:cmpI ((p + 1:Nat):Int) ((q + 1:Nat):Int) = cmpI (p:Int) (q:Int):=by unfold cmpI;congr 1 <;> (first | (simp;done) | (congr 1;simp))
  rw [ec]
  split
  next e=>exact ih
  next e=>first | rfl | rw [if_neg e]
theorem cb_snoc (a b:UInt8):∀ l m:List UInt8,l.length = m.length→Lib.compareBytes (l ++ [a]) (m ++ [b]) = if Lib.compareBytes l m = 0 then cmpU a b else Lib.compareBytes l m
 | [],[],_=>by
  rw [cb_lex,cb_lex]
  show (if cmpU a b = 0 then (0:Int) else cmpU a b) = if (0:Int) = 0 then _ else _
  rw [if_pos rfl];split
  next e=>exact e.symm
  next=>rfl
 | x :: l,y :: m,h=>by
  have ih:=cb_snoc a b l m (by simpa using h)
  rw [cb_lex,cb_lex] at ih ⊢
  rw [List.cons_append,List.cons_append,lexG,lexG]
  split
  next e=>exact ih
  next e=>first | rfl | rw [if_neg e]
def byteAt (s:List UInt8) (i:Nat):Nat:=(s.getD i 0).toNat
def bitAt (s:List UInt8) (i:Nat):Int:=((byteAt s (i / 8) / 2 ^ (7 - i % 8) % 2:Nat):Int)
theorem bit_step (x y r:Nat) (hr:r < 8):(if cmpI ((x / 2 ^ (8 - r):Nat):Int) ((y / 2 ^ (8 - r):Nat):Int) = 0 then cmpI ((x / 2 ^ (7 - r) % 2:Nat):Int) ((y / 2 ^ (7 - r) % 2:Nat):Int) else cmpI ((x / 2 ^ (8 - r):Nat):Int) ((y / 2 ^ (8 - r):Nat):Int)) = cmpI ((x / 2 ^ (8 - (r + 1)):Nat):Int) ((y / 2 ^ (8 - (r + 1)):Nat):Int):=by
 rw [show 8 - (r + 1) = 7 - r by omega,show 8 - r = (7 - r) + 1 by omega,Nat.pow_succ,← Nat.div_div_eq_div_mul,← Nat.div_div_eq_div_mul]
 generalize x / 2 ^ (7 - r) = u
 generalize y / 2 ^ (7 - r) = v
 by_cases h1:u / 2 < v / 2
 ·have e1:cmpI ((u / 2:Nat):Int) ((v / 2:Nat):Int) = -1:=by unfold cmpI;rw [if_pos (by omega)]
  have e2:cmpI (u:Int) v = -1:=by unfold cmpI;rw [if_pos (by omega)]
  rw [e1,e2];rfl
 ·by_cases h2:v / 2 < u / 2
  ·have e1:cmpI ((u / 2:Nat):Int) ((v / 2:Nat):Int) = 1:=by unfold cmpI;rw [if_neg (by omega),if_pos (by omega)]
   have e2:cmpI (u:Int) v = 1:=by unfold cmpI;rw [if_neg (by omega),if_pos (by omega)]
   rw [e1,e2];rfl
  ·rw [if_pos (cmpI_z.2 (by omega))]
   unfold cmpI
   by_cases h3:u < v
   ·rw [if_pos (by omega),if_pos (by omega)]
   ·by_cases h4:v < u
    ·rw [if_neg (by omega),if_pos (by omega),if_neg (by omega),if_pos (by omega)]
    ·rw [if_neg (by omega),if_neg (by omega),if_neg (by omega),if_neg (by omega)]
def wholeC (a b:List UInt8) (q r:Nat):Int :=
 if Lib.compareBytes (a.take q) (b.take q) = 0 then cmpI ((byteAt a q / 2 ^ (8 - r):Nat):Int) ((byteAt b q / 2 ^ (8 - r):Nat):Int) else Lib.compareBytes (a.take q) (b.take q)
theorem byteAt_lt (a:List UInt8) (q:Nat):byteAt a q < 256:=UInt8.toNat_lt _
theorem whole_0 (a b:List UInt8) (q:Nat):wholeC a b q 0 = Lib.compareBytes (a.take q) (b.take q):=by
 unfold wholeC
 have h1:byteAt a q / 2 ^ (8 - 0) = 0:=Nat.div_eq_of_lt (byteAt_lt a q)
 have h2:byteAt b q / 2 ^ (8 - 0) = 0:=Nat.div_eq_of_lt (byteAt_lt b q)
 rw [h1,h2]
 split
 next e=>rw [e];rfl
 next=>rfl
theorem whole_8 (a b:List UInt8) (q:Nat) (ha:q < a.length) (hb:q < b.length):wholeC a b q 8 = wholeC a b (q + 1) 0:=by
 rw [whole_0,List.take_succ_eq_append_getElem ha,List.take_succ_eq_append_getElem hb,cb_snoc _ _ _ _ (by simp;omega)]
 unfold wholeC cmpU byteAt
 rw [getD_in ha,getD_in hb]
 simp
theorem lexN_whole {n:Nat} (a b:List UInt8) (ha:∀ q,q < n / 8→q < a.length) (hb:∀ q,q < n / 8→q < b.length):lexN (bitAt a) (bitAt b) n = wholeC a b (n / 8) (n % 8):=by
 induction n with
 | zero=>rw [whole_0];rfl
 | succ n ih =>
  have ih:=ih (fun q hq=>ha q (by omega)) (fun q hq=>hb q (by omega))
  rw [lexN,ih]
  have hs:(if wholeC a b (n / 8) (n % 8) = 0 then cmpI (bitAt a n) (bitAt b n) else wholeC a b (n / 8) (n % 8)) = wholeC a b (n / 8) (n % 8 + 1):=by
   have hbs:=bit_step (byteAt a (n / 8)) (byteAt b (n / 8)) (n % 8) (by omega)
   unfold wholeC bitAt
   by_cases e:Lib.compareBytes (a.take (n / 8)) (b.take (n / 8)) = 0
   ·rw [if_pos e,if_pos e];exact hbs
   ·rw [if_neg e,if_neg e,if_neg e]
  rw [hs]
  by_cases e:n % 8 = 7
  ·rw [show (n + 1) / 8 = n / 8 + 1 by omega,show (n + 1) % 8 = 0 by omega,show n % 8 + 1 = 8 by omega]
   exact whole_8 a b _ (ha _ (by omega)) (hb _ (by omega))
  ·rw [show (n + 1) / 8 = n / 8 by omega,show (n + 1) % 8 = n % 8 + 1 by omega]
def bitL (f:TF):List Int:=(List.range f.bits.toNat).map (bitAt f.bytes.data.toList)
structure BitsOK (f:TF):Prop where
 lo:0 ≤ f.bits
 hi:f.bits ≤ 16384
 size:(f.bytes.size:Int) = (f.bits + 7) / 8
 last:f.bits % 8 = 0∨lastByte f.bytes % 2 ^ (8 - (f.bits % 8).toNat) = 0
theorem bits_lexN (f1 f2:TF) (h1:BitsOK f1) (h2:BitsOK f2):bitsC f1 f2 = if lexN (bitAt f1.bytes.data.toList) (bitAt f2.bytes.data.toList) (min f1.bits f2.bits).toNat = 0 then cmpI f1.bits f2.bits else lexN (bitAt f1.bytes.data.toList) (bitAt f2.bytes.data.toList) (min f1.bits f2.bits).toNat:=by
 obtain ⟨a1,_,a2,_⟩:=h1
 obtain ⟨b1,_,b2,_⟩:=h2
 have s1:f1.bytes.data.toList.length = f1.bytes.size:=by simp
 have s2:f2.bytes.data.toList.length = f2.bytes.size:=by simp
 rw [lexN_whole _ _ (fun q hq=>by omega) (fun q hq=>by omega)]
 unfold bitsC wholeC byteAt
 dsimp only
 generalize (min f1.bits f2.bits).toNat = n
 by_cases e:Lib.compareBytes (f1.bytes.data.toList.take (n / 8)) (f2.bytes.data.toList.take (n / 8)) = 0
 ·simp only [e,if_true]
  by_cases e0:n % 8 = 0
  ·rw [if_pos e0,e0]
   have h1:((f1.bytes.data.toList).getD (n / 8) 0).toNat / 2 ^ (8 - 0) = 0:=Nat.div_eq_of_lt (UInt8.toNat_lt _)
   have h2:((f2.bytes.data.toList).getD (n / 8) 0).toNat / 2 ^ (8 - 0) = 0:=Nat.div_eq_of_lt (UInt8.toNat_lt _)
   rw [h1,h2];rfl
  ·rw [if_neg e0]
 ·simp only [e,if_false]
theorem bits_lex (f1 f2:TF) (h1:BitsOK f1) (h2:BitsOK f2):bitsC f1 f2 = lexG cmpI (bitL f1) (bitL f2):=by
 rw [bits_lexN f1 f2 h1 h2]
 unfold bitL
 rw [lexN_lex]
 obtain ⟨a1,_,a2,_⟩:=h1
 obtain ⟨b1,_,b2,_⟩:=h2
 rw [show (min f1.bits f2.bits).toNat = min f1.bits.toNat f2.bits.toNat by omega,Int.toNat_of_nonneg a1,Int.toNat_of_nonneg b1]
theorem bits_range (f1 f2:TF):bitsC f1 f2 = -1∨bitsC f1 f2 = 0∨bitsC f1 f2 = 1:=by
 unfold bitsC
 dsimp only
 split
 ·split
  ·exact cmpI_range _ _
  ·split
   ·exact cmpI_range _ _
   ·exact cmpI_range _ _
 ·exact cb_three _ _
theorem bits_anti (f1 f2:TF):bitsC f2 f1 = - bitsC f1 f2:=by
 unfold bitsC
 dsimp only
 rw [show min f2.bits f1.bits = min f1.bits f2.bits by omega]
 generalize (min f1.bits f2.bits).toNat = n
 have e1:Lib.compareBytes (f2.bytes.data.toList.take (n / 8)) (f1.bytes.data.toList.take (n / 8)) = - Lib.compareBytes (f1.bytes.data.toList.take (n / 8)) (f2.bytes.data.toList.take (n / 8)):=by
  rw [cb_lex,cb_lex];exact lexG_anti tpU.anti _ _
 have e2:=cmpI_anti f1.bits f2.bits
 have e3:=cmpI_anti (((f1.bytes.data.toList.getD (n / 8) 0).toNat / 2 ^ (8 - n % 8):Nat):Int) (((f2.bytes.data.toList.getD (n / 8) 0).toNat / 2 ^ (8 - n % 8):Nat):Int)
 generalize cmpI (((f1.bytes.data.toList.getD (n / 8) 0).toNat / 2 ^ (8 - n % 8):Nat):Int) (((f2.bytes.data.toList.getD (n / 8) 0).toNat / 2 ^ (8 - n % 8):Nat):Int) = z at *
 rw [e1,e2,e3]
 split <;> split <;> (try split) <;> (try split) <;> omega
theorem tpBits:TP BitsOK bitsC:=by
 refine ⟨bits_range,bits_anti,fun a b d ha hb hd x y=>?_⟩
 rw [bits_lex a b ha hb] at x
 rw [bits_lex b d hb hd] at y
 rw [bits_lex a d ha hd]
 exact tpI.lex.trans _ _ _ (fun _ _=>trivial) (fun _ _=>trivial) (fun _ _=>trivial) x y
theorem last_bits (f:TF) (h:BitsOK f) (h0:f.bits % 8 ≠ 0):lastByte f.bytes = byteAt f.bytes.data.toList (f.bits.toNat / 8):=by
 have s1:f.bytes.data.toList.length = f.bytes.size:=by simp
 have:=h.size
 have:=h.lo
 unfold lastByte byteAt
 have hl:f.bits.toNat / 8 = f.bytes.data.toList.length - 1:=by omega
 rw [hl,List.getLastD_eq_getLast?,List.getLast?_eq_getElem?,← List.getD_eq_getElem?_getD]
theorem bits_eq (f1 f2:TF) (h1:BitsOK f1) (h2:BitsOK f2) (h:bitsC f1 f2 = 0):f1.bits = f2.bits∧f1.bytes = f2.bytes:=by
 have l1:=last_bits f1 h1
 have l2:=last_bits f2 h2
 obtain ⟨a1,a0,a2,a3⟩:=h1
 obtain ⟨b1,b0,b2,b3⟩:=h2
 have s1:f1.bytes.data.toList.length = f1.bytes.size:=by simp
 have s2:f2.bytes.data.toList.length = f2.bytes.size:=by simp
 unfold bitsC at h
 dsimp only at h
 split at h
 next e =>
  have et:=cb_eq0 e
  have eb:f1.bits = f2.bits:=by
   split at h
   ·exact cmpI_z.1 h
   ·split at h
    ·exact cmpI_z.1 h
    ·contradiction
  refine ⟨eb,?_⟩
  rw [show min f1.bits f2.bits = f1.bits by omega] at et h
  rw [← eb] at b2 b3 l2
  split at h
  next e0 =>
   rw [List.take_of_length_le (by omega),List.take_of_length_le (by omega)] at et
   exact ByteArray.ext (Array.ext' et)
  next e0 =>
   have hp:(f1.bits % 8).toNat = f1.bits.toNat % 8:=by omega
   have hx:=a3.resolve_left (by omega)
   have hy:=b3.resolve_left (by omega)
   rw [l1 (by omega),hp] at hx
   rw [l2 (by omega),hp] at hy
   split at h
   next e2 =>
    have e3:=cmpI_z.1 e2
    have hbyte:byteAt f1.bytes.data.toList (f1.bits.toNat / 8) = byteAt f2.bytes.data.toList (f1.bits.toNat / 8):=by
     have x1:=Nat.div_add_mod (byteAt f1.bytes.data.toList (f1.bits.toNat / 8)) (2 ^ (8 - f1.bits.toNat % 8))
     have x2:=Nat.div_add_mod (byteAt f2.bytes.data.toList (f1.bits.toNat / 8)) (2 ^ (8 - f1.bits.toNat % 8))
     rw [hx] at x1
     rw [hy] at x2
     have e4:byteAt f1.bytes.data.toList (f1.bits.toNat / 8) / 2 ^ (8 - f1.bits.toNat % 8) = byteAt f2.bytes.data.toList (f1.bits.toNat / 8) / 2 ^ (8 - f1.bits.toNat % 8):=by unfold byteAt;exact Int.ofNat_inj.1 e3
     rw [← x1,← x2,e4]
    have q1:f1.bits.toNat / 8 < f1.bytes.data.toList.length:=by omega
    have q2:f1.bits.toNat / 8 < f2.bytes.data.toList.length:=by omega
    have hb2:f1.bytes.data.toList[f1.bits.toNat / 8] = f2.bytes.data.toList[f1.bits.toNat / 8]:=by
     unfold byteAt at hbyte
     rw [getD_in q1,getD_in q2] at hbyte
     exact UInt8.toNat_inj.1 hbyte
    have t1:f1.bytes.data.toList.take (f1.bits.toNat / 8 + 1) = f1.bytes.data.toList:=List.take_of_length_le (by omega)
    have t2:f2.bytes.data.toList.take (f1.bits.toNat / 8 + 1) = f2.bytes.data.toList:=List.take_of_length_le (by omega)
    rw [List.take_succ_eq_append_getElem q1] at t1
    rw [List.take_succ_eq_append_getElem q2] at t2
    refine ByteArray.ext (Array.ext' ?_)
    rw [← t1,← t2,et,hb2]
   next e2=>exact absurd h e2
 next e=>exact absurd h e
end Go.Proofs.YtfbggmbmgohiiaaGreat.tm
namespace Go.Proofs.YtfbggmbmgohiiaaGreat.tm
open names
theorem of_eqB {α:Type} {a b:α} (h:eqB a b = true):a = b:=@of_decide_eq_true _ (Classical.propDecidable _) h
def FT:(n:Nat)→Tm n→Prop
 | 0,_=>True
 | n + 1,t=>formedT t = true
theorem ft_items {n:Nat} {t:Tm (n + 1)} (h:formedT t = true):∀ x ∈ t.items,FT n x:=by
 intro x hx
 cases n with
 | zero=>trivial
 | succ n =>
  unfold formedT at h
  simp only [Bool.and_eq_true] at h
  have h2:=h.2
  unfold formedL at h2
  rw [List.all_eq_true] at h2
  have:=h2 x hx
  show formedT x = true
  unfold formedT
  exact this
theorem ft_ok {n:Nat} {t:Tm (n + 1)} (h:formedT t = true):inB t.f.kind 0 10 = true∧okF t.f t.items.length (lastK n t.items) = true∧({ bareF t.f with kind:=0 }:TF) = zeroF∧(if t.f.kind = 4∨t.f.kind = 7∨t.f.kind = 9 then 0 else t.items.length) = 0:=by
 unfold formedT okT bareOK at h
 simp only [Bool.and_eq_true] at h
 obtain ⟨⟨h1,h2,h3,h4⟩,_⟩:=h
 exact ⟨h1,h2,of_eqB h3,of_decide_eq_true h4⟩
theorem ft_bits {n:Nat} {t:Tm (n + 1)} (h:formedT t = true) (hk:t.f.kind = 10):BitsOK t.f:=by
 obtain ⟨_,h2,_,_⟩:=ft_ok h
 unfold okF at h2
 rw [if_neg (by omega),if_neg (by omega),if_neg (by omega),if_neg (by omega),if_neg (by omega),if_neg (by omega),if_neg (by omega),if_pos hk] at h2
 unfold okBits inB at h2
 simp only [Bool.and_eq_true,decide_eq_true_eq] at h2
 exact ⟨h2.1.1.1,h2.1.1.2,h2.1.2,h2.2⟩
theorem last_kd {n:Nat} (l:List (Tm n)) (a:Tm n):lastK n (a :: l) = kdT n ((a :: l).getLast (by simp)):=by
 cases n with
 | zero=>exact (nomatch (show Empty from a))
 | succ n =>
  show (((a :: l).getLast?).map (fun t:Tm (n + 1)=>t.f.kind)).getD 0 = _
  rw [List.getLast?_eq_some_getLast (List.cons_ne_nil a l)];rfl
theorem good_of {α:Type} {S:α→Prop} {kd:α→Int}:∀ (l:List α) (a:α),(∀ x ∈ a :: l,S x)→kd ((a :: l).getLast (by simp)) ≠ 9→GoodC S kd a l
 | [],a,h,hk=>⟨h a (by simp),hk⟩
 | b :: l,a,h,hk=>⟨h a (by simp),good_of l b (fun x hx=>h x (by simp [hx])) (by rw [List.getLast_cons (by simp)] at hk;exact hk)⟩
theorem ft_list {n:Nat} {t:Tm (n + 1)} (h:formedT t = true) (hk:t.f.kind = 9):2 ≤ t.items.length∧GoodL (FT n) (kdT n) t.items:=by
 obtain ⟨_,h2,_,_⟩:=ft_ok h
 have h3:=ft_items h
 unfold okF at h2
 rw [if_neg (by omega),if_neg (by omega),if_neg (by omega),if_neg (by omega),if_neg (by omega),if_neg (by omega),if_pos hk] at h2
 simp only [Bool.and_eq_true,decide_eq_true_eq] at h2
 refine ⟨h2.1,?_⟩
 generalize t.items = l at *
 cases l with
 | nil=>simp at h2
 | cons a l=>exact good_of l a h3 (by rw [← last_kd];exact h2.2)
theorem head_then (f1 f2:TF):headC f1 f2 = thenC (fun f1 f2:TF=>cmpB f1.name f2.name) (thenC (fun f1 f2:TF=>cmpB f1.func f2.func) (thenC (fun f1 f2:TF=>cmpI f1.gen f2.gen) (thenC (fun f1 f2:TF=>cmpI f1.int f2.int) (fun f1 f2:TF=>cmpI f1.arity f2.arity)))) f1 f2:=by
 unfold headC thenC firstL firstL firstL firstL firstL firstL
 dsimp only
 repeat (split <;> try rfl)
 all_goals (rename_i h;exact h.symm)
theorem tpHead:TP (fun _=>True) headC:=by
 have e:headC = thenC (fun f1 f2:TF=>cmpB f1.name f2.name) (thenC (fun f1 f2:TF=>cmpB f1.func f2.func) (thenC (fun f1 f2:TF=>cmpI f1.gen f2.gen) (thenC (fun f1 f2:TF=>cmpI f1.int f2.int) (fun f1 f2:TF=>cmpI f1.arity f2.arity)))):=by funext f1 f2;exact head_then f1 f2
 rw [e]
 exact TP.then (tpB.comap (fun f:TF=>f.name)) (TP.then (tpB.comap (fun f:TF=>f.func)) (TP.then (tpI.comap (fun f:TF=>f.gen)) (TP.then (tpI.comap (fun f:TF=>f.int)) (tpI.comap (fun f:TF=>f.arity)))))
theorem head_eq {f1 f2:TF} (h:headC f1 f2 = 0):f1.name = f2.name∧f1.func = f2.func∧f1.gen = f2.gen∧f1.int = f2.int∧f1.arity = f2.arity:=by
 rw [head_then] at h
 unfold thenC at h
 split at h
 next e1 =>
  split at h
  next e2 =>
   split at h
   next e3 =>
    split at h
    next e4=>exact ⟨cmpB_eq e1,cmpB_eq e2,cmpI_z.1 e3,cmpI_z.1 e4,cmpI_z.1 h⟩
    next e=>exact absurd h e
   next e=>exact absurd h e
  next e=>exact absurd h e
 next e=>exact absurd h e
def bodyC {n:Nat} (k:Int) (a b:Tm (n + 1)):Int :=
 if k = 7 then itemsC (cmpTm n) a.items b.items else if k = 9 then listsC (kdT n) (cmpTm n) a.items b.items else if k = 10 then bitsC a.f b.f else thenC (fun a b:Tm (n + 1)=>headC a.f b.f) (fun a b=>itemsC (cmpTm n) a.items b.items) a b
theorem cmp_body {n:Nat} (a b:Tm (n + 1)):cmpTm (n + 1) a b = if a.f.kind = b.f.kind then bodyC a.f.kind a b else cmpI a.f.kind b.f.kind:=rfl
structure OrdT (n:Nat):Prop where
 tp:TP (FT n) (cmpTm n)
 kd:∀ a b,kdT n a ≠ kdT n b→cmpTm n a b = cmpI (kdT n a) (kdT n b)
 eq:∀ a b,FT n a→FT n b→cmpTm n a b = 0→a = b
theorem tf_eq {f1 f2:TF} (hk:f1.kind = f2.kind) (z1:({ bareF f1 with kind:=0 }:TF) = zeroF) (z2:({ bareF f2 with kind:=0 }:TF) = zeroF)
 (hh:f1.kind ≠ 7→f1.kind ≠ 9→f1.kind ≠ 10→f1.name = f2.name∧f1.func = f2.func∧f1.gen = f2.gen∧f1.int = f2.int∧f1.arity = f2.arity) (hb:f1.kind = 10→f1.bits = f2.bits∧f1.bytes = f2.bytes):f1 = f2:=by
 obtain ⟨k1,i1,g1,n1,fn1,a1,b1,s1⟩:=f1
 obtain ⟨k2,i2,g2,n2,fn2,a2,b2,s2⟩:=f2
 dsimp only at hk hh hb
 subst hk
 unfold bareF zeroF at z1 z2
 dsimp only at z1 z2
 by_cases h10:k1 = 10
 ·subst h10
  obtain ⟨rfl,rfl⟩:=hb rfl
  simp at z1 z2
  simp [z1,z2]
 ·by_cases h:k1 = 7∨k1 = 9
  ·have n1:¬ k1 = 1:=by omega
   have n2:¬ k1 = 2:=by omega
   have n3:¬ (k1 = 3∨k1 = 6):=by omega
   have n4:¬ k1 = 4:=by omega
   have n5:¬ k1 = 5:=by omega
   rw [if_neg n1,if_neg n2,if_neg n3,if_neg n4,if_neg n5,if_neg h10] at z1 z2
   simp at z1 z2
   simp [z1,z2]
  ·obtain ⟨rfl,rfl,rfl,rfl,rfl⟩:=hh (by omega) (by omega) h10
   have eb:b1 = ⟨#[]⟩∧s1 = 0:=by
    clear z2
    repeat' split at z1
    all_goals (simp at z1;simp [z1])
   have eb2:b2 = ⟨#[]⟩∧s2 = 0:=by
    clear z1
    repeat' split at z2
    all_goals (simp at z2;simp [z2])
   simp [eb,eb2]
theorem body_tp {n:Nat} (ih:OrdT n) (k:Int):TP (fun t:Tm (n + 1)=>formedT t = true∧t.f.kind = k) (bodyC k):=by
 have hI:TP (fun t:Tm (n + 1)=>formedT t = true∧t.f.kind = k) (fun a b:Tm (n + 1)=>itemsC (cmpTm n) a.items b.items):=(ih.tp.items.comap (fun t:Tm (n + 1)=>t.items)).mono (fun t h=>ft_items h.1)
 by_cases h7:k = 7
 ·have e:bodyC k = (fun a b:Tm (n + 1)=>itemsC (cmpTm n) a.items b.items):=by funext a b;unfold bodyC;rw [if_pos h7]
  rw [e];exact hI
 by_cases h9:k = 9
 ·have e:bodyC k = (fun a b:Tm (n + 1)=>listsC (kdT n) (cmpTm n) a.items b.items):=by funext a b;unfold bodyC;rw [if_neg h7,if_pos h9]
  rw [e]
  refine ((ih.tp.lists ih.kd).comap (fun t:Tm (n + 1)=>t.items)).mono (fun t h=>?_)
  obtain ⟨h1,h2⟩:=ft_list h.1 (by omega)
  exact ⟨fun e=>by rw [e] at h1;simp at h1,h2⟩
 by_cases h10:k = 10
 ·have e:bodyC k = (fun a b:Tm (n + 1)=>bitsC a.f b.f):=by funext a b;unfold bodyC;rw [if_neg h7,if_neg h9,if_pos h10]
  rw [e]
  exact (tpBits.comap (fun t:Tm (n + 1)=>t.f)).mono (fun t h=>ft_bits h.1 (by omega))
 ·have e:bodyC k = thenC (fun a b:Tm (n + 1)=>headC a.f b.f) (fun a b=>itemsC (cmpTm n) a.items b.items):=by funext a b;unfold bodyC;rw [if_neg h7,if_neg h9,if_neg h10]
  rw [e]
  exact TP.then ((tpHead.comap (fun t:Tm (n + 1)=>t.f)).mono (fun _ _=>trivial)) hI
theorem body_eq {n:Nat} (ih:OrdT n) (a b:Tm (n + 1)) (ha:formedT a = true) (hb:formedT b = true) (hk:a.f.kind = b.f.kind) (h:bodyC a.f.kind a b = 0):a = b:=by
 obtain ⟨a1,a2,a3,a4⟩:=ft_ok ha
 obtain ⟨b1,b2,b3,b4⟩:=ft_ok hb
 have hI:itemsC (cmpTm n) a.items b.items = 0→a.items = b.items:=fun h=>items_eq _ _ (fun x hx y hy=>ih.eq x y (ft_items ha x hx) (ft_items hb y hy)) h
 unfold bodyC at h
 by_cases h7:a.f.kind = 7
 ·rw [if_pos h7] at h
  exact Tm.ext (tf_eq hk a3 b3 (fun x=>absurd h7 x) (fun x=>by omega)) (hI h)
 rw [if_neg h7] at h
 by_cases h9:a.f.kind = 9
 ·rw [if_pos h9] at h
  have l1:=ft_list ha h9
  have l2:=ft_list hb (by omega)
  refine Tm.ext (tf_eq hk a3 b3 (fun _ x=>absurd h9 x) (fun x=>by omega)) ?_
  clear hI a1 a2 a3 a4 b1 b2 b3 b4
  generalize a.items = l at *
  generalize b.items = m at *
  cases l with
  | nil=>simp at l1
  | cons x l=>cases m with
   | nil=>simp at l2
   | cons y m =>
    obtain ⟨e1,e2⟩:=cells_eq (S:=FT n) ih.eq l x m y l1.2 l2.2 h
    rw [e1,e2]
 rw [if_neg h9] at h
 by_cases h10:a.f.kind = 10
 ·rw [if_pos h10] at h
  rw [if_neg (by omega)] at a4 b4
  refine Tm.ext (tf_eq hk a3 b3 (fun _ _ x=>absurd h10 x) (fun _=>bits_eq _ _ (ft_bits ha h10) (ft_bits hb (by omega)) h)) ?_
  rw [List.length_eq_zero_iff.1 a4,List.length_eq_zero_iff.1 b4]
 rw [if_neg h10] at h
 unfold thenC at h
 split at h
 next e=>exact Tm.ext (tf_eq hk a3 b3 (fun _ _ _=>head_eq e) (fun x=>absurd x h10)) (hI h)
 next e=>exact absurd h e
theorem ordT:∀ n,OrdT n
 | 0=>⟨⟨fun a=>(nomatch (show Empty from a)),fun a=>(nomatch (show Empty from a)),fun a=>(nomatch (show Empty from a))⟩,fun a=>(nomatch (show Empty from a)),fun a=>(nomatch (show Empty from a))⟩
 | n + 1=>by
  have ih:=ordT n
  refine ⟨⟨fun a b=>?_,fun a b=>?_,fun a b d ha hb hd x y=>?_⟩,fun a b h=>?_,fun a b ha hb h=>?_⟩
  ·rw [cmp_body];split
   ·exact (body_tp ih _).range a b
   ·exact cmpI_range _ _
  ·rw [cmp_body,cmp_body]
   by_cases e:a.f.kind = b.f.kind
   ·rw [if_pos e,if_pos e.symm,← e];exact (body_tp ih _).anti a b
   ·rw [if_neg e,if_neg (Ne.symm e)];exact cmpI_anti _ _
  ·have k1:a.f.kind ≤ b.f.kind:=by
    rw [cmp_body] at x
    split at x
    ·omega
    ·exact cmpI_le.1 x
   have k2:b.f.kind ≤ d.f.kind:=by
    rw [cmp_body] at y
    split at y
    ·omega
    ·exact cmpI_le.1 y
   rw [cmp_body] at x y ⊢
   by_cases e:a.f.kind = d.f.kind
   ·have e1:a.f.kind = b.f.kind:=by omega
    have e2:b.f.kind = d.f.kind:=by omega
    rw [if_pos e1] at x
    rw [if_pos e2,← e1] at y
    rw [if_pos e]
    exact (body_tp ih a.f.kind).trans a b d ⟨ha,rfl⟩ ⟨hb,e1.symm⟩ ⟨hd,e.symm⟩ x y
   ·rw [if_neg e];exact cmpI_le.2 (by omega)
  ·rw [cmp_body,if_neg (show ¬ a.f.kind = b.f.kind from h)];rfl
  ·rw [cmp_body] at h
   split at h
   next e=>exact body_eq ih a b ha hb e h
   next e=>exact absurd (cmpI_z.1 h) e
end Go.Proofs.YtfbggmbmgohiiaaGreat.tm
namespace Go.Proofs.YtfbggmbmgohiiaaGreat.tb
open Go.RowKit mem tm names
def byteOf (x:Int):UInt8:=UInt8.ofNat (x % 256).toNat
theorem byteOf_nat (x:Int):((byteOf x).toNat:Int) = x % 256:=by
 unfold byteOf
 have h:(x % 256).toNat < 256:=by omega
 rw [UInt8.toNat_ofNat_of_lt' (by exact h)]
 omega
theorem wrap8 (x:Int):IntKind.u8.wrap x = ((byteOf x).toNat:Int):=by
 rw [byteOf_nat]
 unfold IntKind.wrap
 have h1:IntKind.u8.signed = false:=rfl
 have h2:((2:Int) ^ IntKind.u8.bits) = 256:=rfl
 simp only [h1,h2]
 simp
def numB (n:Int) (k:Nat):List UInt8:=(List.range k).map (fun i=>byteOf (n / 256 ^ (k - 1 - i)))
theorem numB_len (n:Int) (k:Nat):(numB n k).length = k:=by simp [numB]
def strB (s:ByteArray):List UInt8:=s.data.toList
theorem strB_len (s:ByteArray):(strB s).length = s.size:=by simp [strB]
def atomB (s:ByteArray):List UInt8:=119 :: byteOf s.size :: strB s
theorem atomB_len (s:ByteArray):(atomB s).length = s.size + 2:=by simp [atomB,strB_len]
def digB (u:Nat):List UInt8:=if h:u = 0 then [] else byteOf u :: digB (u / 256)
termination_by u
decreasing_by omega
theorem digB_0:digB 0 = []:=by rw [digB];simp
theorem digB_s {u:Nat} (h:u ≠ 0):digB u = byteOf u :: digB (u / 256):=by rw [digB];simp [h]
theorem digB_len:∀ (k u:Nat),u < 256 ^ k→(digB u).length ≤ k:=by
 intro k
 induction k with
 | zero => intro u h; obtain rfl : u = 0 := by simpa using h
           rw [digB_0];simp
 | succ k ih =>
  intro u h
  by_cases h0:u = 0
  ·subst h0;rw [digB_0];simp
  ·rw [digB_s h0]
   have:=ih (u / 256) (by rw [Nat.pow_succ] at h;omega)
   simp;omega
theorem u64_rng (n:Int):0 ≤ IntKind.u64.wrap n∧IntKind.u64.wrap n ≤ 18446744073709551615:=by
 unfold IntKind.wrap
 have h1:IntKind.u64.signed = false:=rfl
 have h2:((2:Int) ^ IntKind.u64.bits) = 18446744073709551616:=rfl
 simp only [h1,h2]
 simp
 omega
def magI (n:Int):Int:=if n < 0 then IntKind.u64.wrap (-IntKind.u64.wrap n) else IntKind.u64.wrap n
def magN (n:Int):Nat:=(magI n).toNat
theorem magN_eq (n:Int):((magN n:Nat):Int) = magI n:=by
 unfold magN magI
 have a:=u64_rng n
 have b:=u64_rng (-IntKind.u64.wrap n)
 split <;> omega
theorem magN_lt (n:Int):magN n < 256 ^ 8:=by
 show _ < 18446744073709551616
 unfold magN magI
 have a:=u64_rng n
 have b:=u64_rng (-IntKind.u64.wrap n)
 split <;> omega
def intB (n:Int):List UInt8 :=
 if 0 ≤ n∧n < 256 then [97,byteOf n]
 else if -2147483648 ≤ n∧n ≤ 2147483647 then 98 :: numB n 4
 else 110 :: byteOf (digB (magN n)).length :: (if n < 0 then 1 else 0) :: digB (magN n)
def bitsB (f:TF):List UInt8 :=
 if f.bits.tmod 8 = 0 then 109 :: (numB f.bytes.size 4 ++ strB f.bytes)
 else 77 :: (numB f.bytes.size 4 ++ (byteOf (f.bits.tmod 8) :: strB f.bytes))
def headB (f:TF) (m:Nat):List UInt8 :=
 if f.kind = 1 then intB f.int
 else if f.kind = 2 then atomB f.name
 else if f.kind = 7 then [104,byteOf m]
 else if f.kind = 8 then [106]
 else if f.kind = 9 then 108 :: numB ((m:Int) - 1) 4
 else if f.kind = 10 then bitsB f
 else if f.kind = 6 then 88 :: (atomB f.name ++ (numB f.int 4 ++ (numB 0 4 ++ numB f.gen 4)))
 else if f.kind = 3 then 90 :: 0 :: 1 :: (atomB f.name ++ (numB f.gen 4 ++ numB f.int 4))
 else if f.kind = 5 then 113 :: (atomB f.name ++ (atomB f.func ++ intB f.arity))
 else if f.kind = 4 then 112 :: byteOf f.arity :: (numB f.int 2 ++ (byteOf m :: (atomB f.name ++ numB f.gen 4)))
 else []
def encL:(n:Nat)→List (Tm n)→List UInt8
 | 0,_=>[]
 | n + 1,l=>l.flatMap (fun t=>headB t.f t.items.length ++ encL n t.items)
def encT {n:Nat} (t:Tm (n + 1)):List UInt8:=headB t.f t.items.length ++ encL n t.items
theorem encL_nil:∀ n,encL n [] = []
 | 0=>rfl
 | n + 1=>rfl
theorem encL_cons {n:Nat} (t:Tm (n + 1)) (l:List (Tm (n + 1))):encL (n + 1) (t :: l) = encT t ++ encL (n + 1) l:=by simp [encL,encT]
theorem encL_take {n:Nat} (l:List (Tm (n + 1))) (k:Nat) (h:k < l.length):encL (n + 1) (l.take (k + 1)) = encL (n + 1) (l.take k) ++ encT l[k]:=by
 rw [← List.take_append_getElem h]
 unfold encL encT
 rw [List.flatMap_append]
 simp only [List.flatMap_cons,List.flatMap_nil,List.append_nil]
theorem vName_size {s:ByteArray} (h:vName s = true):s.size ≤ 255:=by
 unfold vName at h
 simp only [Bool.and_eq_true,decide_eq_true_eq] at h
 omega
theorem intB_len (n:Int):(intB n).length ≤ 11:=by
 unfold intB
 split
 ·simp
 ·split
  ·simp [numB_len]
  ·have:=digB_len 8 (magN n) (magN_lt n)
   simp;omega
theorem headB_len {n:Nat} {t:Tm (n + 1)} (h:formedT t = true):(headB t.f t.items.length).length ≤ 3000:=by
 obtain ⟨h1,h2,h3,h4⟩:=ft_ok h
 have hi':=intB_len t.f.int
 unfold headB
 unfold okF at h2
 by_cases k1:t.f.kind = 1
 ·rw [if_pos k1];omega
 by_cases k2:t.f.kind = 2
 ·rw [if_neg k1,if_pos k2,atomB_len]
  simp [k1,k2] at h2
  have:=vName_size h2;omega
 by_cases k7:t.f.kind = 7
 ·rw [if_neg k1,if_neg k2,if_pos k7];simp
 by_cases k8:t.f.kind = 8
 ·rw [if_neg k1,if_neg k2,if_neg k7,if_pos k8];simp
 by_cases k9:t.f.kind = 9
 ·rw [if_neg k1,if_neg k2,if_neg k7,if_neg k8,if_pos k9];simp [numB_len]
 by_cases k10:t.f.kind = 10
 ·rw [if_neg k1,if_neg k2,if_neg k7,if_neg k8,if_neg k9,if_pos k10]
  rw [k10] at h2
  simp [okBits,inB] at h2
  have e:(t.f.bytes.size:Int) = (t.f.bits + 7) / 8:=h2.1.2
  have hb:=h2.1.1
  unfold bitsB
  split <;> simp [numB_len,strB_len] <;> omega
 by_cases k6:t.f.kind = 6
 ·rw [if_neg k1,if_neg k2,if_neg k7,if_neg k8,if_neg k9,if_neg k10,if_pos k6]
  rw [k6] at h2
  simp at h2
  have:=vName_size h2.2.2
  simp [numB_len,atomB_len];omega
 by_cases k3:t.f.kind = 3
 ·rw [if_neg k1,if_neg k2,if_neg k7,if_neg k8,if_neg k9,if_neg k10,if_neg k6,if_pos k3]
  rw [k3] at h2
  simp at h2
  have:=vName_size h2.2.2
  simp [numB_len,atomB_len];omega
 by_cases k5:t.f.kind = 5
 ·rw [if_neg k1,if_neg k2,if_neg k7,if_neg k8,if_neg k9,if_neg k10,if_neg k6,if_neg k3,if_pos k5]
  rw [k5] at h2
  simp [inB] at h2
  have a:=vName_size h2.1
  have b:=vName_size h2.2.1
  have c:=intB_len t.f.arity
  simp [numB_len,atomB_len];omega
 by_cases k4:t.f.kind = 4
 ·rw [if_neg k1,if_neg k2,if_neg k7,if_neg k8,if_neg k9,if_neg k10,if_neg k6,if_neg k3,if_neg k5,if_pos k4]
  rw [k4] at h2
  simp at h2
  have:=vName_size h2.2.2.1
  simp [numB_len,atomB_len];omega
 simp [k1,k2,k7,k8,k9,k10,k6,k3,k5,k4]
def crcStep (s:Int):Int:=if s % 2 = 1 then bits .xor .u32 (s / 2) 3988292384 else s / 2
def crcN:Nat→Int→Int
 | 0,s=>s
 | k + 1,s=>crcN k (crcStep s)
def crcB (s:Int) (c:UInt8):Int:=crcN 8 (bits .xor .u32 s c.toNat)
def crcL (l:List UInt8):Int:=l.foldl crcB 4294967295
def hashB (l:List UInt8):Int:=bits .xor .u32 (crcL l) 4294967295
theorem wrapU32 (n:Nat) (h:n < 4294967296):IntKind.u32.wrap (n:Int) = n:=by
 unfold IntKind.wrap
 have h1:IntKind.u32.signed = false:=rfl
 have h2:((2:Int) ^ IntKind.u32.bits) = 4294967296:=rfl
 simp only [h1,h2]
 simp;omega
theorem xor_rng (a b:Int):0 ≤ bits .xor .u32 a b∧bits .xor .u32 a b ≤ 4294967295:=by
 unfold bits
 dsimp only
 have:=(BitVec.ofInt IntKind.u32.bits a ^^^ BitVec.ofInt IntKind.u32.bits b).isLt
 have e:2 ^ IntKind.u32.bits = 4294967296:=rfl
 rw [wrapU32 _ (by omega)]
 omega
theorem xor_comm (a b:Int):bits .xor .u32 a b = bits .xor .u32 b a:=by unfold bits;simp only [BitVec.xor_comm]
theorem nat32 (a:Int) (h0:0 ≤ a) (h1:a ≤ 4294967295):(BitVec.ofInt IntKind.u32.bits a).toNat = a.toNat:=by
 show (BitVec.ofInt 32 a).toNat = _
 rw [BitVec.toNat_ofInt]
 omega
theorem xor_zero (a:Int) (h0:0 ≤ a) (h1:a ≤ 4294967295):bits .xor .u32 a 0 = a:=by
 unfold bits
 dsimp only
 rw [BitVec.toNat_xor,nat32 a h0 h1,nat32 0 (by decide) (by decide)]
 simp only [Int.toNat_zero,Nat.xor_zero]
 rw [wrapU32 _ (by omega)]
 omega
theorem and_one (a:Int) (h0:0 ≤ a) (h1:a ≤ 4294967295):bits .and .u32 a 1 = a % 2:=by
 unfold bits
 dsimp only
 rw [BitVec.toNat_and,nat32 a h0 h1,nat32 1 (by decide) (by decide)]
 have e:a.toNat &&& (1:Int).toNat = a.toNat % 2:=Nat.and_one_is_mod _
 rw [e,wrapU32 _ (by omega)]
 omega
theorem crc_even {s:Int} (h0:0 ≤ s) (h1:s ≤ 4294967295) (h:s % 2 = 0):bits .xor .u32 (s / 2) 0 = crcStep s:=by
 unfold crcStep
 rw [if_neg (by omega),xor_zero _ (by omega) (by omega)]
theorem crc_odd {s:Int} (h:s % 2 = 1):bits .xor .u32 (s / 2) 3988292384 = crcStep s:=by
 unfold crcStep
 rw [if_pos h]
theorem crcStep_rng {s:Int} (h0:0 ≤ s) (h1:s ≤ 4294967295):0 ≤ crcStep s∧crcStep s ≤ 4294967295:=by
 unfold crcStep
 split
 ·exact xor_rng _ _
 ·omega
theorem crcN_snoc:∀ (k:Nat) (s:Int),crcN (k + 1) s = crcStep (crcN k s)
 | 0,s=>rfl
 | k + 1,s=>by
  show crcN (k + 1) (crcStep s) = _
  rw [crcN_snoc k (crcStep s)]
  rfl
theorem crcN_rng:∀ (k:Nat) {s:Int},0 ≤ s→s ≤ 4294967295→0 ≤ crcN k s∧crcN k s ≤ 4294967295
 | 0,s,h0,h1=>⟨h0,h1⟩
 | k + 1,s,h0,h1=>crcN_rng k (crcStep_rng h0 h1).1 (crcStep_rng h0 h1).2
theorem crcL_rng (l:List UInt8):0 ≤ crcL l∧crcL l ≤ 4294967295:=by
 unfold crcL
 have:∀ (l:List UInt8) (s:Int),0 ≤ s→s ≤ 4294967295→0 ≤ l.foldl crcB s∧l.foldl crcB s ≤ 4294967295:=by
  intro l
  induction l with
  | nil=>intro s h0 h1;exact ⟨h0,h1⟩
  | cons c l ih =>
   intro s h0 h1
   have:=xor_rng s c.toNat
   have:=crcN_rng 8 this.1 this.2
   exact ih _ this.1 this.2
 exact this l _ (by decide) (by decide)
theorem crcL_take (l:List UInt8) (k:Nat) (h:k < l.length):crcL (l.take (k + 1)) = crcB (crcL (l.take k)) l[k]:=by
 unfold crcL
 rw [← List.take_append_getElem h,List.foldl_append]
 rfl
end Go.Proofs.YtfbggmbmgohiiaaGreat.tb
namespace Go.Proofs.YtfbggmbmgohiiaaGreat.tb
open Go.RowKit mem rec tm names
theorem belowA {B:Nat} {a b:World} (h:Below B a b) (o:Obj) (hB:B ≤ b.heap.size:=by omega):Below B a (b.alloc o):=h.alloc hB o
theorem belowN {B:Nat} {a b:World} (h:Below B a b) (n:Nat):Below B a (b.drewN n):=⟨h.os,h.tape,h.output,h.size,h.block⟩
theorem belowD {B:Nat} {a b:World} (h:Below B a b):Below B a b.drew:=⟨h.os,h.tape,h.output,h.size,h.block⟩
theorem belowCC {w w1 w2:World} (h:Below w.heap.size w w1) (k:Below w1.heap.size w1 w2):Below w.heap.size w w2:=h.trans (k.mono h.size)
theorem alloc_new (w:World) (o:Obj):(w.alloc o).heap[w.heap.size]? = some o:=(MapKept.heap_alloc w o).1
def encB (b:UInt8):List Value:=[.int .u8 b.toNat]
theorem encB_ok (l:List UInt8):EncOK encB 1 l:=fun a _=>⟨rfl,fun u hu=>by simp [encB] at hu;subst hu;rfl⟩
theorem encB_flat (l:List UInt8):l.flatMap encB = Lib.byteCells l:=by
 induction l with
 | nil=>rfl
 | cons a l ih=>rw [List.flatMap_cons,ih];rfl
theorem info5:(Tryz.prog.info? 5).map (fun i=>(i.zero,i.size,i.bytes)) = some (some (.int .u8 0),1,1):=by kernel_rfl
theorem elty_of {sl e s b:Nat} {z:Value} (hu:Tryz.prog.underlying sl = some (.slice e)) (hi:(Tryz.prog.info? e).map (fun i=>(i.zero,i.size,i.bytes)) = some (some z,s,b)) (hz:z.cells.size = s) (hs:0 < s) (hb:b ≤ 10000):ElTy sl e s:=by
 cases hq:Tryz.prog.info? e with
 | none=>rw [hq] at hi;simp at hi
 | some i =>
  rw [hq] at hi
  simp only [Option.map_some,Option.some.injEq,Prod.mk.injEq] at hi
  exact ⟨hu,⟨i,z,hq,hi.1,hi.2.1,hz,by omega⟩,hs⟩
theorem elB:ElTy 86 5 1:=elty_of Tryz.underlying86 info5 rfl (by decide) (by decide)
theorem step_append_rec {α:Type} {enc:α→List Value} {sl e k:Nat} (T:ElTy sl e k) {w:World} {ops:Array Oper} {o:Oper} {a:Act} {K:Act→World→Prop} {Q:Exit→Act→World→Prop} {E:Prop} (hgd:o.guard = none) (x y:Operand)
 (ho:o.op = .call { callee:=.builtin .append,args:=#[x,y],argTypes:=#[sl,sl] }) {base:Nat} {v:Value} {l:List α} (hs:a.eval x = v) (hown:RecOwn enc e k w base v l) (hb:base ≤ w.heap.size)
 {B:Nat} {vx:Value} {xs:List α} (hx:a.eval y = vx) (hrow:RecAt enc k w B vx xs) (hE:EncOK enc k xs) (hn:l.length + xs.length ≤ 1000000000)
 (hK:∀ v' w',AppR enc e k w base v l xs v' w'→K (a.put o.dst v') w'):if Region.wanted o (yielded ops a.tmps) = true then Oper.wp Tryz.prog o a w K Q else E:=by
 have hw:Region.wanted o (yielded ops a.tmps) = true:=by simp [Region.wanted,hgd]
 rw [if_pos hw]
 obtain ⟨v',w',hr,h2⟩:=run_append_rec T hown hb o.type hrow hE hn
 unfold Oper.wp execOp
 simp only [ho,resolve,invoke,builtin,Sem.run_bind,Sem.run_pure,Result.andThen_ok,List.map_toArray,List.map_cons,List.map_nil,hs,hx,hr]
 exact hK _ _ h2
theorem run_append_str {w:World} {base:Nat} {v:Value} {l:List UInt8} (h:RecOwn encB 5 1 w base v l) (hb:base ≤ w.heap.size) (ty:TypeId) (s:ByteArray) (hn:l.length + s.size ≤ 1000000000) :
 ∃ v' w',(Builtin.append_ #[86,9] ty #[v,.string s]).run Tryz.prog w = .ok v' w'∧AppR encB 5 1 w base v l (strB s) v' w':=by
 obtain ⟨i,z,hi,hz,hs,hzs,hby⟩:=elB.info
 have h0:=info5
 rw [hi] at h0
 simp only [Option.map_some,Option.some.injEq,Prod.mk.injEq] at h0
 obtain ⟨hz',hs',hb'⟩:=h0
 have hcells:(strB s).flatMap encB = Lib.strCells s:=by rw [encB_flat];rfl
 have hlen:((l ++ strB s).flatMap encB).length = (l ++ strB s).length * 1:=flat_len (encB_ok _)
 have hxl:(l.flatMap encB).length = l.length:=by simpa using flat_len (encB_ok l)
 have grown:∀ (old:Nat),old < l.length + s.size→∀ (vv:Value),
  AppR encB 5 1 w base vv l (strB s) (.slice (some ⟨w.heap.size,0,none⟩) (l.length + s.size) (grownCap w (l.length + s.size) old 5)) (w.drew.alloc (.cells ((l.flatMap encB).toArray ++ (Lib.strCells s).toArray ++ Builtin.zeroCells (Value.int .u8 0).cells (grownCap w (l.length + s.size) old 5 - (l.length + s.size))) 5)):=by
  intro old ho vv
  have hge:=grownCap_ge w (l.length + s.size) old 5
  have hcm:grownCap w (l.length + s.size) old 5 ≤ maxLen:=grownCap_le_maxLen w (l.length + s.size) old 5 (by unfold maxLen;omega)
  refine ⟨⟨hlen,.inr ⟨w.heap.size,_,_,by rw [List.length_append,strB_len],hb,(MapKept.heap_alloc w.drew _).1,by rw [List.length_append,strB_len];exact hge,hcm,?_,?_⟩⟩,⟨rfl,rfl,rfl,by simp,fun k hk _=>Below.heap_alloc _ _ _ hk⟩,.inr rfl⟩
  ·have hz1:(Value.int IntKind.u8 0).cells.size = 1:=rfl
   simp only [Array.size_append,List.size_toArray,size_zeroCells,hz1,hxl,Lib.strCells_length]
   omega
  ·simp only [Array.toList_append,List.append_assoc]
   rw [← List.append_assoc,← hlen,List.flatMap_append,hcells]
   exact List.take_left
 rcases h.2 with ⟨rfl,h00⟩ | ⟨g,cap,cur,rfl,hbg,hg,hnc,hcm,hcs,htake⟩
 ·obtain rfl:=List.eq_nil_of_length_eq_zero h00
  by_cases hm:s.size = 0
  ·have hn0:strB s = []:=List.eq_nil_of_length_eq_zero (by rw [strB_len];exact hm)
   refine ⟨.slice none 0 0,w,?_,by rw [hn0];exact h,⟨rfl,rfl,rfl,Nat.le_refl _,fun _ _ _=>rfl⟩,.inl rfl⟩
   have hf:=Lib.run_firstCells_string (P:=Tryz.prog) w 1 s
   rw [hm] at hf
   have hn1:Lib.strCells s = []:=List.eq_nil_of_length_eq_zero (by rw [Lib.strCells_length];exact hm)
   simp [Builtin.append_,run_underlying Tryz.underlying86,run_underlying Tryz.underlying9,sizeOf,typeInfo,hi,hs',Builtin.lenOf,hm,hf]
  ·have hr:=run_append_nil_string (P:=Tryz.prog) w 86 9 ty 5 i (.int .u8 0) Tryz.underlying86 Tryz.underlying9 hi hz' s (by omega) (by simp at hn;omega) (by rw [hb'];simp at hn;omega)
   have hgr:=grown 0 (by simp;omega) (.slice none 0 0)
   simp only [List.length_nil,Nat.zero_add,List.flatMap_nil,Array.empty_append] at hgr
   have e1:(s.data.map fun b=>Value.int .u8 b.toNat) = (Lib.strCells s).toArray:=by
    apply Array.ext'
    simp [Lib.strCells]
   rw [e1] at hr
   exact ⟨_,_,hr,by simpa using hgr⟩
 ·by_cases hroom:l.length + s.size ≤ cap
  ·have hcs':cur.size = cap:=by simpa using hcs
   have hr:=Lib.run_append_room_string (P:=Tryz.prog) w 86 9 ty 5 i Tryz.underlying86 Tryz.underlying9 hi hs' g l.length cap cur hg s hroom (by omega)
   refine ⟨_,_,hr,⟨hlen,.inr ⟨g,cap,_,by rw [List.length_append,strB_len],hbg,setRow_heap w g cur _ 5 _ hg,by rw [List.length_append,strB_len];exact hroom,hcm,?_,?_⟩⟩,⟨rfl,rfl,rfl,by simp,fun k _ hk=>setRow_other w g k _ (fun e=>hk (by simp [Value.ownBlock,e]))⟩,.inl rfl⟩
   ·simp only [List.size_toArray,List.length_append,List.length_take,List.length_drop,Array.length_toList,Lib.strCells_length]
    omega
   ·have ht':cur.toList.take l.length = l.flatMap encB:=by simpa using htake
    rw [ht',← hlen,List.flatMap_append,hcells]
    exact List.take_left
  ·have holds:∀ j u,(l.flatMap encB)[j]? = some u→w.cell? ((⟨g,0,none⟩:Addr).add j) = some u:=h.cells (g:=g) rfl
   have hr:=Lib.run_append_grow_string (P:=Tryz.prog) w 86 9 ty 5 i (.int .u8 0) Tryz.underlying86 Tryz.underlying9 hi hz' ⟨g,0,none⟩ l.length cap (l.flatMap encB) (by rw [hs'];simpa using hxl) holds s (by omega) (by omega) (by rw [hb'];exact growslice_fits (by omega) (by omega))
   exact ⟨_,_,hr,grown cap (by omega) _⟩
theorem wpList_append_str {w:World} {ops:Array Oper} {rest:List Oper} {o:Oper} {a:Act} {Q:Exit→Act→World→Prop} (hgd:o.guard = none) (x y:Operand)
 (ho:o.op = .call { callee:=.builtin .append,args:=#[x,y],argTypes:=#[86,9] }) {base:Nat} {v:Value} {l:List UInt8} (hs:a.eval x = v) (hown:RecOwn encB 5 1 w base v l) (hb:base ≤ w.heap.size)
 {s:ByteArray} (hx:a.eval y = .string s) (hn:l.length + s.size ≤ 1000000000)
 (h:∀ v' w',AppR encB 5 1 w base v l (strB s) v' w'→wpList Tryz.prog ops Q rest (a.put o.dst v') w'):wpList Tryz.prog ops Q (o :: rest) a w:=by
 refine wpList_plain hgd fun K hK=>?_
 obtain ⟨v',w',hr,h2⟩:=run_append_str hown hb o.type s hn
 unfold Oper.wp execOp
 simp only [ho,resolve,invoke,builtin,Sem.run_bind,Sem.run_pure,Result.andThen_ok,List.map_toArray,List.map_cons,List.map_nil,hs,hx,hr]
 exact hK _ _ (h v' w' h2)
theorem recTouch {α:Type} {enc:α→List Value} {s:Nat} {S:Nat→Prop} {w w1:World} {B:Nat} {v:Value} {l:List α} (h:RecAt enc s w B v l) (ht:TouchB S w w1) (hB:B ≤ w.heap.size) (hn:∀ g,v.ownBlock = some g→¬ S g):RecAt enc s w1 B v l:=by
 obtain ⟨p,c,rfl,h1,h2,h3⟩:=h
 refine ⟨p,c,rfl,h1,h2,fun hne=>?_⟩
 obtain ⟨g,o,rfl,hg,hc⟩:=h3 hne
 exact ⟨g,o,rfl,hg,fun j a hj k u hu=>(World.cell?_of_block (w:=w) (w':=w1) (a:=⟨g,o + (j * s + k),none⟩) (ht.block g (by omega) (hn g rfl))).trans (hc j a hj k u hu)⟩
structure WrAt (w:World) (B b:Nat) (v:Value) (l:List UInt8):Prop where
 obj:∃ p,(p = .pointer none∨p = .pointer (some ⟨b,0,none⟩))∧w.heap[b]? = some (.cells #[p,v] 120)
 row:RecOwn encB 5 1 w B v l
 ne:v.ownBlock ≠ some b
 hb:B ≤ b
theorem WrAt.lt {w:World} {B b:Nat} {v:Value} {l:List UInt8} (h:WrAt w B b v l):b < w.heap.size:=by
 obtain ⟨p,_,h⟩:=h.obj
 exact (Array.getElem?_eq_some_iff.1 h).1
theorem WrAt.same {w w':World} {B b:Nat} {v:Value} {l:List UInt8} (h:WrAt w B b v l) (h1:w'.heap[b]? = w.heap[b]?) (h2:∀ k,v.ownBlock = some k→w'.heap[k]? = w.heap[k]?):WrAt w' B b v l:=by
 obtain ⟨p,hp,ho⟩:=h.obj
 exact ⟨⟨p,hp,h1.trans ho⟩,h.row.same h2,h.ne,h.hb⟩
theorem WrAt.below {w w':World} {B b:Nat} {v:Value} {l:List UInt8} (h:WrAt w B b v l) (hb:Below w.heap.size w w'):WrAt w' B b v l:=h.same (hb.block _ h.lt) (fun k hk=>hb.block k (h.row.lt hk).2)
structure WrS (b:Nat) (v v':Value) (w w':World):Prop where
 touch:TouchB (fun k=>k = b∨v.ownBlock = some k) w w'
 place:∀ k,v'.ownBlock = some k→v.ownBlock = some k∨w.heap.size ≤ k
theorem WrS.refl (b:Nat) (v:Value) (w:World):WrS b v v w w:=⟨TouchB.refl _ _,fun k h=>.inl h⟩
theorem WrS.trans {b:Nat} {v v' v'':Value} {w w' w'':World} (h:WrS b v v' w w') (k:WrS b v' v'' w' w''):WrS b v v'' w w'' :=
 ⟨h.touch.trans k.touch (fun i hi hs=>by
  rcases hs with rfl | hs
  ·exact .inl rfl
  ·rcases h.place i hs with h1 | h1
   ·exact .inr h1
   ·omega),fun i hi=>by
  rcases k.place i hi with h1 | h1
  ·exact h.place i h1
  ·exact .inr (Nat.le_trans h.touch.size h1)⟩
theorem WrS.grow {b:Nat} {v v':Value} {w w1 w':World} (hb:Below w.heap.size w w1) (h:WrS b v v' w1 w'):WrS b v v' w w' :=
 ⟨((TouchB.refl _ w).ofBelow hb (Nat.le_refl _)).trans h.touch (fun i _ hs=>hs),fun k hk=>by
  rcases h.place k hk with h1 | h1
  ·exact .inl h1
  ·exact .inr (Nat.le_trans hb.size h1)⟩
theorem WrS.after {b:Nat} {v v':Value} {w w1 w':World} (h:WrS b v v' w w1) (hb:Below w1.heap.size w1 w'):WrS b v v' w w' :=
 ⟨h.touch.ofBelow hb h.touch.size,h.place⟩
theorem WrS.other {b:Nat} {v v':Value} {w w':World} (h:WrS b v v' w w') {k:Nat} (hk:k < w.heap.size) (h1:k ≠ b) (h2:v.ownBlock ≠ some k):w'.heap[k]? = w.heap[k]? :=
 h.touch.block k hk (fun e=>by rcases e with e | e;exact h1 e;exact h2 e)
theorem WrS.low {b B:Nat} {v v':Value} {w w':World} (h:WrS b v v' w w') (hb:B ≤ b) (hv:∀ k,v.ownBlock = some k→B ≤ k) (hB:B ≤ w.heap.size):Below B w w' :=
 h.touch.below (fun k hk=>by rcases hk with rfl | hk;exact hb;exact hv k hk) hB
def WrQ (B b:Nat) (v:Value) (l:List UInt8) (w w':World):Prop:=∃ v',WrAt w' B b v' l∧WrS b v v' w w'
theorem two_cells {w:World} {z:Nat} {a b:Value} {t:TypeId} (h:w.heap[z]? = some (.cells #[a,b] t)):w.cell? ⟨z,0,none⟩ = some a∧w.cell? ⟨z,1,none⟩ = some b∧∀ o,w.frozen? ⟨z,o,none⟩ = false:=by
 refine ⟨?_,?_,fun o=>?_⟩
 ·simp only [World.cell?,h];rfl
 ·simp only [World.cell?,h];rfl
 ·simp only [World.frozen?,h];simp
theorem lies120:liesAt Tryz.prog Tryz.prog.depth 120 (2 / Tryz.prog.cellsOf 120) 0 118 1 = true:=by kernel_rfl
theorem size118:(Tryz.prog.info? 118).map (·.size) = some 2:=by kernel_rfl
theorem copy122 {w:World} {B b:Nat} {v:Value} {l:List UInt8} (h:WrAt w B b v l):Calls Tryz.prog 122 #[.pointer (some ⟨b,0,none⟩)] w fun e w'=>e = .returned (.tuple #[])∧w'.heap[b]? = some (.cells #[.pointer (some ⟨b,0,none⟩),v] 120)∧TouchB (fun k=>k = b) w w'∧w'.heap.size = w.heap.size:=by
 obtain ⟨j,hj,hjs⟩:=Option.map_eq_some_iff.1 size118
 obtain ⟨p,hp,ho⟩:=h.obj
 clear h
 obtain ⟨c0,c1,cf⟩:=two_cells ho
 have hsh:w.shape? b = some (120,2):=by simp [World.shape?,ho]
 have HO:=Lib.hid ho
 clear ho
 rcases hp with rfl | rfl
 ·go_enter Tryz.func122,Tryz.ntmps122
  go_wp2
  rw [Lib.run_to_unsafe w ⟨b,0,none⟩ Tryz.underlying116 Tryz.underlying166 hj (by rw [hjs];decide) hsh (Nat.zero_lt_succ 1)]
  simp only [Result.andThen]
  rw [Oper.upon_value]
  go_wp2
  rw [run_callFunc_extern Tryz.func137 (by kernel_rfl) (by kernel_rfl) (by kernel_rfl) (e:=Extern.AbiNoEscape.same) (by kernel_rfl)]
  rw [Lib.run_noEscape]
  simp only [Result.andThen]
  rw [Oper.upon_value]
  go_wp2
  rw [Lib.run_from_unsafe w ⟨b,0,none⟩ Tryz.underlying166 Tryz.underlying116 hj hsh lies120]
  simp only [Result.andThen]
  rw [Oper.upon_value]
  go_wp2
  go_end0
  exact ⟨rfl,heap_setCell_same w b 0 _ 120 _ HO.out,(TouchB.refl _ w).setCell ⟨b,0,none⟩ _ (fun _=>rfl),by simp⟩
 ·go_enter Tryz.func122,Tryz.ntmps122
  go_wp2
  rw [Lib.run_neq_ptr_same w _ Tryz.underlying116 hj]
  go_wp2
  go_end0
  exact ⟨rfl,HO.out,TouchB.refl _ _,rfl⟩
end Go.Proofs.YtfbggmbmgohiiaaGreat.tb
namespace Go.Proofs.YtfbggmbmgohiiaaGreat.tb
open tm
section
variable {K V:Type} {c:K→K→Int} {S:K→Prop}
structure Ord (S:K→Prop) (c:K→K→Int):Prop where
 tp:TP (fun _=>True) c
 eq:∀ a b,S a→S b→c a b = 0→a = b
theorem Ord.lt_trans (h:Ord S c) {a b d:K} (h1:c a b < 0) (h2:c b d < 0):c a d < 0:=by
 have t:=h.tp.trans a b d trivial trivial trivial (by omega) (by omega)
 by_cases e:c a d = 0
 ·have:=h.tp.zero (a:=a) (b:=b) (d:=d) trivial trivial trivial (by omega) (by omega) e
  omega
 ·omega
noncomputable def posR (c:K→K→Int) (R:List (K × V)) (k:K):Nat:=R.findIdx (fun x=>!decide (c x.1 k < 0))
noncomputable def hasR (c:K→K→Int) (R:List (K × V)) (k:K):Bool:=(R[posR c R k]?).elim false (fun x=>eqB x.1 k)
noncomputable def putR (c:K→K→Int) (R:List (K × V)) (k:K) (v:V):List (K × V):=R.take (posR c R k) ++ (k,v) :: R.drop (if hasR c R k then posR c R k + 1 else posR c R k)
noncomputable def getR (c:K→K→Int) (R:List (K × V)) (k:K):Option V:=if hasR c R k then (R[posR c R k]?).map (·.2) else none
def SortR (c:K→K→Int) (R:List (K × V)):Prop:=R.Pairwise (fun a b=>c a.1 b.1 < 0)
theorem posR_le (R:List (K × V)) (k:K):posR c R k ≤ R.length:=List.findIdx_le_length
theorem posR_take {R:List (K × V)} {k:K} {x:K × V} (hx:x ∈ R.take (posR c R k)):c x.1 k < 0:=by
 obtain ⟨i,hi,rfl⟩:=List.mem_iff_getElem.1 hx
 rw [List.length_take] at hi
 rw [List.getElem_take]
 have:=List.not_of_lt_findIdx (p:=fun x:K × V=>!decide (c x.1 k < 0)) (xs:=R) (i:=i) (by unfold posR at hi;omega)
 simpa using this
theorem posR_drop (h:Ord S c) {R:List (K × V)} (hs:SortR c R) {k:K} {x:K × V} (hx:x ∈ R.drop (posR c R k)):¬ c x.1 k < 0:=by
 obtain ⟨i,hi,rfl⟩:=List.mem_iff_getElem.1 hx
 rw [List.length_drop] at hi
 rw [List.getElem_drop]
 have hp:posR c R k < R.length:=by omega
 have h0:¬ c (R[posR c R k]).1 k < 0:=by
  have hq:R.findIdx (fun x:K × V=>!decide (c x.1 k < 0)) < R.length:=hp
  have h2:(!decide (c (R[posR c R k]).1 k < 0)) = true:=List.findIdx_getElem (p:=fun x:K × V=>!decide (c x.1 k < 0)) (xs:=R) (w:=hq)
  intro h3
  simp only [Bool.not_eq_true',decide_eq_false_iff_not] at h2
  exact h2 h3
 intro hlt
 by_cases e:i = 0
 ·subst e;exact h0 hlt
 ·exact h0 (h.lt_trans (List.pairwise_iff_getElem.1 hs (posR c R k) (posR c R k + i) hp (by omega) (by omega)) hlt)
theorem hasR_some {R:List (K × V)} {k:K} (h:hasR c R k = true):∃ hp:posR c R k < R.length,(R[posR c R k]).1 = k:=by
 unfold hasR at h
 by_cases hp:posR c R k < R.length
 ·rw [List.getElem?_eq_getElem hp] at h
  exact ⟨hp,of_eqB h⟩
 ·rw [List.getElem?_eq_none (by omega)] at h
  cases h
theorem hasR_iff (h:Ord S c) {R:List (K × V)} (hs:SortR c R) {k:K}:hasR c R k = true↔∃ v,(k,v) ∈ R:=by
 constructor
 ·intro hh
  obtain ⟨hp,e⟩:=hasR_some hh
  refine ⟨(R[posR c R k]).2,?_⟩
  have hm:=List.getElem_mem hp
  have e2:(k,(R[posR c R k]).2) = R[posR c R k]:=Prod.ext e.symm rfl
  exact e2 ▸ hm
 ·rintro ⟨v,hv⟩
  obtain ⟨j,hj,ej⟩:=List.mem_iff_getElem.1 hv
  have hnl:¬ c k k < 0:=by have:=h.tp.refl k;omega
  have hge:¬ j < posR c R k:=fun hlt=>by
   have:c (R[j]).1 k < 0:=posR_take (R:=R) (k:=k) (List.mem_iff_getElem.2 ⟨j,by rw [List.length_take];omega,by rw [List.getElem_take]⟩)
   rw [ej] at this
   exact hnl this
  have hp:posR c R k < R.length:=by omega
  have h0:¬ c (R[posR c R k]).1 k < 0:=posR_drop h hs (List.mem_iff_getElem.2 ⟨0,by rw [List.length_drop];omega,by rw [List.getElem_drop];simp⟩)
  have e:j = posR c R k:=by
   refine Classical.byContradiction fun hne=>h0 ?_
   have:=List.pairwise_iff_getElem.1 hs (posR c R k) j hp hj (by omega)
   rwa [ej] at this
  unfold hasR
  rw [List.getElem?_eq_getElem hp]
  refine eqB_t ?_
  subst e
  rw [ej]
theorem keysR_ne {R:List (K × V)} (h:Ord S c) {k:K} {x:K × V} (hx:c x.1 k < 0∨c k x.1 < 0):x.1 ≠ k:=fun e=>by
 have:=h.tp.refl k
 rw [e] at hx
 omega
theorem splitR_at {α:Type} {R:List α} {p:Nat} (hp:p < R.length):R = R.take p ++ R[p] :: R.drop (p + 1):=by
 rw [List.getElem_cons_drop hp,List.take_append_drop]
theorem splitR_has (h:Ord S c) {R:List (K × V)} (hs:SortR c R) {k:K} (hh:hasR c R k = true):∃ A v C,R = A ++ (k,v) :: C∧posR c R k = A.length∧(∀ x ∈ A,c x.1 k < 0)∧(∀ x ∈ C,c k x.1 < 0):=by
 obtain ⟨hp,e⟩:=hasR_some hh
 have e2:R[posR c R k] = (k,(R[posR c R k]).2):=Prod.ext e rfl
 have hsp:=splitR_at hp
 rw [e2] at hsp
 refine ⟨_,_,_,hsp,by rw [List.length_take];omega,fun x hx=>posR_take hx,fun x hx=>?_⟩
 unfold SortR at hs
 rw [hsp] at hs
 have h3:=(List.pairwise_append.1 hs).2.1
 exact (List.pairwise_cons.1 h3).1 x hx
theorem splitR_no (h:Ord S c) {R:List (K × V)} (hs:SortR c R) {k:K} (hk:S k) (hS:∀ x ∈ R,S x.1) (hh:hasR c R k = false):∃ A C,R = A ++ C∧posR c R k = A.length∧(∀ x ∈ A,c x.1 k < 0)∧(∀ x ∈ C,c k x.1 < 0):=by
 refine ⟨_,_,(List.take_append_drop (posR c R k) R).symm,by rw [List.length_take];have:=posR_le (c:=c) R k;omega,fun x hx=>posR_take hx,fun x hx=>?_⟩
 have h1:=posR_drop h hs hx
 have h2:=h.tp.anti x.1 k
 by_cases e:c x.1 k = 0
 ·have hm:=List.mem_of_mem_drop hx
  have:=h.eq _ _ (hS x hm) hk e
  have hc:=(hasR_iff h hs (k:=k)).2 ⟨x.2,by rw [← this];exact hm⟩
  rw [hh] at hc
  cases hc
 ·omega
theorem putR_has {R:List (K × V)} {k:K} {v v0:V} {A C:List (K × V)} (hh:hasR c R k = true) (e:R = A ++ (k,v0) :: C) (hp:posR c R k = A.length):putR c R k v = A ++ (k,v) :: C:=by
 unfold putR
 rw [hh,if_pos rfl,hp,e]
 simp
theorem putR_no {R:List (K × V)} {k:K} {v:V} {A C:List (K × V)} (hh:hasR c R k = false) (e:R = A ++ C) (hp:posR c R k = A.length):putR c R k v = A ++ (k,v) :: C:=by
 unfold putR
 rw [hh,if_neg (by decide),hp,e]
 simp
theorem putR_mem (h:Ord S c) {R:List (K × V)} (hs:SortR c R) {k:K} (hk:S k) (hS:∀ x ∈ R,S x.1) (v:V) (a:K) (b:V):(a,b) ∈ putR c R k v↔(a = k∧b = v)∨(a ≠ k∧(a,b) ∈ R):=by
 cases hh:hasR c R k
 ·obtain ⟨A,C,e,hp,h1,h2⟩:=splitR_no h hs hk hS hh
  rw [putR_no hh e hp,e]
  simp only [List.mem_append,List.mem_cons,Prod.mk.injEq]
  constructor
  ·rintro (h3 | ⟨rfl,rfl⟩ | h3)
   ·exact .inr ⟨keysR_ne (R:=R) h (.inl (h1 _ h3)),.inl h3⟩
   ·exact .inl ⟨rfl,rfl⟩
   ·exact .inr ⟨keysR_ne (R:=R) h (.inr (h2 _ h3)),.inr h3⟩
  ·rintro (⟨rfl,rfl⟩ | ⟨h3,h4 | h4⟩)
   ·exact .inr (.inl ⟨rfl,rfl⟩)
   ·exact .inl h4
   ·exact .inr (.inr h4)
 ·obtain ⟨A,v0,C,e,hp,h1,h2⟩:=splitR_has h hs hh
  rw [putR_has hh e hp,e]
  simp only [List.mem_append,List.mem_cons,Prod.mk.injEq]
  constructor
  ·rintro (h3 | ⟨rfl,rfl⟩ | h3)
   ·exact .inr ⟨keysR_ne (R:=R) h (.inl (h1 _ h3)),.inl h3⟩
   ·exact .inl ⟨rfl,rfl⟩
   ·exact .inr ⟨keysR_ne (R:=R) h (.inr (h2 _ h3)),.inr (.inr h3)⟩
  ·rintro (⟨rfl,rfl⟩ | ⟨h3,h4 | ⟨rfl,rfl⟩ | h4⟩)
   ·exact .inr (.inl ⟨rfl,rfl⟩)
   ·exact .inl h4
   ·exact absurd rfl h3
   ·exact .inr (.inr h4)
theorem putR_sort (h:Ord S c) {R:List (K × V)} (hs:SortR c R) {k:K} (hk:S k) (hS:∀ x ∈ R,S x.1) (v:V):SortR c (putR c R k v):=by
 have key:∀ {A C:List (K × V)},A.Pairwise (fun a b=>c a.1 b.1 < 0)→C.Pairwise (fun a b=>c a.1 b.1 < 0)→(∀ x ∈ A,c x.1 k < 0)→(∀ x ∈ C,c k x.1 < 0)→SortR c (A ++ (k,v) :: C):=fun {A C} hA hC h1 h2=>by
  refine List.pairwise_append.2 ⟨hA,List.pairwise_cons.2 ⟨fun x hx=>h2 x hx,hC⟩,fun x hx y hy=>?_⟩
  rcases List.mem_cons.1 hy with rfl | hy
  ·exact h1 x hx
  ·exact h.lt_trans (h1 x hx) (h2 y hy)
 cases hh:hasR c R k
 ·obtain ⟨A,C,e,hp,h1,h2⟩:=splitR_no h hs hk hS hh
  rw [putR_no hh e hp]
  unfold SortR at hs
  rw [e] at hs
  have hq:=List.pairwise_append.1 hs
  exact key hq.1 hq.2.1 h1 h2
 ·obtain ⟨A,v0,C,e,hp,h1,h2⟩:=splitR_has h hs hh
  rw [putR_has hh e hp]
  unfold SortR at hs
  rw [e] at hs
  have hq:=List.pairwise_append.1 hs
  exact key hq.1 (List.pairwise_cons.1 hq.2.1).2 h1 h2
theorem getR_iff (h:Ord S c) {R:List (K × V)} (hs:SortR c R) {k:K} {v:V}:getR c R k = some v↔(k,v) ∈ R:=by
 unfold getR
 cases hh:hasR c R k
 ·rw [if_neg (by decide)]
  refine ⟨fun e=>(nomatch e),fun hm=>?_⟩
  have:=(hasR_iff h hs (k:=k)).2 ⟨v,hm⟩
  rw [hh] at this
  cases this
 ·obtain ⟨A,v0,C,e,hp,h1,h2⟩:=splitR_has h hs hh
  rw [if_pos rfl,hp,e]
  have e3:(A ++ (k,v0) :: C)[A.length]? = some (k,v0):=by simp
  rw [e3]
  simp only [Option.map_some,Option.some.injEq,List.mem_append,List.mem_cons,Prod.mk.injEq,true_and]
  constructor
  ·rintro rfl;exact .inr (.inl rfl)
  ·rintro (h3 | h3 | h3)
   ·exact absurd rfl (keysR_ne (R:=R) (x:=(k,v)) h (.inl (h1 _ h3)))
   ·exact h3.symm
   ·exact absurd rfl (keysR_ne (R:=R) (x:=(k,v)) h (.inr (h2 _ h3)))
end
end Go.Proofs.YtfbggmbmgohiiaaGreat.tb
