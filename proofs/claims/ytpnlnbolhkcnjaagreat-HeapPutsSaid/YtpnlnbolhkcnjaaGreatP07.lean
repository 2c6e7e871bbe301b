/- TmD,Nam. No condition beyond theirs. -/
import Derived.Test.YtpnlnbolhkcnjaaGreatP06
import Derived.Laws.Strings
set_option linter.unusedSimpArgs false
set_option linter.unusedVariables false
set_option maxHeartbeats 1000000
set_option maxRecDepth 100000
namespace Go.Proofs.YtpnlnbolhkcnjaaGreat
namespace tm
open Go.RowKit mem
def leftB (f:TF) (m:Int):Prop:=m < (f.name.size:Int)∨m < (f.func.size:Int)∨m < (f.bytes.size:Int)
def leftN (f:TF) (m:Int):Int:=m - 1 - (f.name.size:Int) / 8 - (f.func.size:Int) / 8 - (f.bytes.size:Int) / 8
instance (f:TF) (m:Int):Decidable (leftB f m):=by unfold leftB;infer_instance
def leftStep {n:Nat} (r:List (Tm n)→Int→Int) (m:Int) (t:Tm (n + 1)):Int:=if m < 0 then m else if leftB t.f m then -1 else r t.items (leftN t.f m)
def leftS:(n:Nat)→List (Tm n)→Int→Int
 | 0,_,m=>m
 | n + 1,l,m=>l.foldl (leftStep (leftS n)) m
theorem leftN_bd (f:TF) (m:Int) (h0:0 ≤ m) (h:¬ leftB f m):-1 ≤ leftN f m∧leftN f m < m:=by
 unfold leftB at h;unfold leftN;omega
theorem fold_neg {n:Nat} (r:List (Tm n)→Int→Int) (m:Int) (h:m < 0):∀ (l:List (Tm (n + 1))),l.foldl (leftStep r) m = m:=by
 intro l
 induction l with
 | nil=>rfl
 | cons t l ih=>rw [List.foldl_cons];unfold leftStep at *;rw [if_pos h];exact ih
theorem leftS_bd:∀ (n:Nat) (l:List (Tm n)) (m:Int), -1 ≤ m→-1 ≤ leftS n l m∧leftS n l m ≤ m:=by
 intro n
 induction n with
 | zero=>intro l m h;exact ⟨h,Int.le_refl _⟩
 | succ n ih =>
  intro l
  induction l with
  | nil=>intro m h;exact ⟨h,Int.le_refl _⟩
  | cons t l ih2 =>
   intro m h;have e:leftS (n + 1) (t :: l) m = leftS (n + 1) l (leftStep (leftS n) m t):=rfl;rw [e];have hs:-1 ≤ leftStep (leftS n) m t∧leftStep (leftS n) m t ≤ m:=by
    unfold leftStep
    split
    ·exact ⟨h,Int.le_refl _⟩
    ·rename_i h0
     split
     ·omega
     ·rename_i h1;have:=leftN_bd t.f m (by omega) h1;have:=ih t.items (leftN t.f m) this.1;omega
   have:=ih2 _ hs.1;omega
theorem left_snoc {n:Nat} (l:List (Tm (n + 1))) (m:Int) (k:Nat) (h:k < l.length):leftS (n + 1) (l.take (k + 1)) m = leftStep (leftS n) (leftS (n + 1) (l.take k) m) l[k]:=by
 unfold leftS;rw [List.take_succ_eq_append_getElem h,List.foldl_append];rfl
theorem left_end {n:Nat} (l:List (Tm (n + 1))) (m:Int) (k:Nat) (h:k ≤ l.length) (hn:leftS (n + 1) (l.take k) m < 0):leftS (n + 1) l m = leftS (n + 1) (l.take k) m:=by
 have e:leftS (n + 1) l m = (l.drop k).foldl (leftStep (leftS n)) (leftS (n + 1) (l.take k) m):=by
  show l.foldl _ m = _
  conv=>lhs;rw [← List.take_append_drop k l]
  rw [List.foldl_append];rfl
 rw [e,fold_neg _ _ hn]
def LeftC (n:Nat):Prop:=∀ (w:World) (B:Nat) (v:Value) (l:List (Tm n)) (m:Int),B ≤ w.heap.size→-1 ≤ m→m ≤ 10000→ItemsAt w B n v l→Calls Tryz.prog 87 #[v,.int .i64 m] w fun e w'=>e = .returned (.int .i64 (leftS n l m))∧Below w.heap.size w w'
theorem leftZero:LeftC 0:=by
 intro w B v l m hB hm0 hm h;obtain ⟨p,c,rfl,hc⟩:=h;go_enter Tryz.func87,Tryz.ntmps87;go_wp2_with fail;refine wp_loop_rounds 1 ?_;rw [rounds_succ];go_wp2_with fail
 all_goals
  go_ret;exact ⟨rfl,Below.refl _ _⟩
theorem leftSucc {n:Nat} (ih:LeftC n):LeftC (n + 1):=by
 intro w B v l m hB hm0 hm h;obtain ⟨p,c,e,hc,hcm⟩:=h.shape;subst e;unfold maxLen at hcm;have HI:=Lib.hid h;clear h;go_enter Tryz.func87,Tryz.ntmps87;go_wp2_with fail;go_loopw [1,5] (fun s1 s wr=>∃ k:Nat,s = .int .i64 k∧k ≤ l.length∧s1 = .int .i64 (leftS (n + 1) (l.take k) m)∧Below w.heap.size w wr) (fun _ s _=>l.length - (intOf s).toNat)
 case atStart=>exact ⟨0,rfl,by omega,rfl,Below.refl _ _⟩
 case round =>
  obtain ⟨k,rfl,hk,rfl,hb⟩:=hrel;obtain ⟨hm1,hm2⟩:=leftS_bd (n + 1) (l.take k) m hm0
  by_cases hlt:k < l.length
  ·have hs:=left_snoc l m k hlt
   by_cases hneg:leftS (n + 1) (l.take k) m < 0
   ·have he:=left_end l m k hk hneg;have HE:=Lib.hid he;clear he;have hq:decide (0 ≤ leftS (n + 1) (l.take k) m) = false:=decide_eq_false (by omega);clear hs;generalize leftS (n + 1) (l.take k) m = q at *;go_wp2_with fail;go_ret;exact ⟨ret1 HE.out.symm,hb⟩
   ·have hq:decide (0 ≤ leftS (n + 1) (l.take k) m) = true:=decide_eq_true (by omega);obtain ⟨g,o,c',e,_,_,hg,hx⟩:=(HI.out.below hb hB).at_ (by intro e;subst e;simp at hlt);simp only [Value.slice.injEq] at e;obtain ⟨rfl,_,rfl⟩:=e;obtain ⟨u,hC,hI⟩:=hx k hlt;obtain ⟨pu,cu,rfl,hcu,hcm2⟩:=hI.shape;obtain ⟨x0,x1,x2,x3,x4,x5,x6,x7,x8⟩:=hC;unfold leftStep at hs;rw [if_neg hneg] at hs;have hend:∀ z:Int,leftS (n + 1) (l.take (k + 1)) m = z→z < 0→leftS (n + 1) l m = z:=fun z hz hz0=>by
     rw [left_end l m (k + 1) (by omega) (by rw [hz];exact hz0),hz]
    have HEND:=Lib.hid hend;clear hend;have HS:=Lib.hid hs;clear hs;clear hx;generalize leftS (n + 1) (l.take k) m = q at *;generalize l[k] = t at *;have hih:=fun (W:World) (hW:Below w.heap.size w W) (hW2:Below wr.heap.size wr W) (hq0:¬ leftB t.f q)=>ih W B _ t.items (leftN t.f q) (Nat.le_trans hB hW.size) (leftN_bd t.f q (by omega) hq0).1 (by have:=(leftN_bd t.f q (by omega) hq0).2;omega) (hI.below hW2 (Nat.le_trans hB hb.size));have HIH:=Lib.hid hih;clear hih;clear hI;have hsz:=hb.size;generalize t.items = its at *;generalize hf:t.f = f at *;clear hf
    have hb3:∀ (o1:Obj),Below w.heap.size w (wr.alloc o1):=fun o1=>hb.alloc hsz o1
    by_cases h3:q < (f.name.size:Int)
    ·have hL:leftB f q:=.inl h3;have HR:=Lib.hid (HEND.out (-1) (by rw [HS.out,if_pos hL]) (by omega));clear HS HEND HIH;go_wp2_with fail;go_ret;exact ⟨ret1 HR.out.symm,hb3 _⟩
    by_cases h4:q < (f.func.size:Int)
    ·have hL:leftB f q:=.inr (.inl h4);have HR:=Lib.hid (HEND.out (-1) (by rw [HS.out,if_pos hL]) (by omega));clear HS HEND HIH;go_wp2_with fail;go_ret;exact ⟨ret1 HR.out.symm,hb3 _⟩
    by_cases h5:q < (f.bytes.size:Int)
    ·have hL:leftB f q:=.inr (.inr h5);have HR:=Lib.hid (HEND.out (-1) (by rw [HS.out,if_pos hL]) (by omega));clear HS HEND HIH;go_wp2_with fail;go_ret;exact ⟨ret1 HR.out.symm,hb3 _⟩
    have hL:¬ leftB f q:=by unfold leftB;omega
    have HS2:Hid (leftS (n + 1) (l.take (k + 1)) m = leftS n its (leftN f q)):=Lib.hid (by rw [HS.out,if_neg hL]);have hih:=fun (W:World) hW hW2=>HIH.out W hW hW2 hL;unfold leftN at hih;have HIH2:=Lib.hid hih;clear hih;clear HS HEND HIH;go_wp2_with fail;refine (HIH2.out _ (hb3 _) ((Below.refl _ _).alloc (Nat.le_refl _) _)).mono ?_;rintro e w3 ⟨rfl,hb4⟩;have hb5:=(hb3 (.cells #[.int .i64 0] 38)).size;have hb6:Below w.heap.size w w3:=(hb3 _).trans (hb4.mono (by simp;omega))
    have HS3:Hid (leftS (n + 1) (l.take (k + 1)) m = leftS n its (q - 1 - (f.name.size:Int) / 8 - (f.func.size:Int) / 8 - (f.bytes.size:Int) / 8)):=HS2;go_wp2_with fail;go_roundw
    case rel=>exact ⟨k + 1,by go_num,by omega,by rw [HS3.out],hb6⟩
    case measure=>simp [intOf];omega
  ·have hkk:l.take k = l:=List.take_of_length_le (by omega);rw [hkk] at *;clear hkk;have hq:decide (k < l.length) = false:=decide_eq_false hlt;go_wp2_with fail;go_ret;exact ⟨rfl,hb⟩
theorem leftAll (n:Nat):LeftC n:=by
 induction n with
 | zero=>exact leftZero
 | succ n ih=>exact leftSucc ih
def greatS (n:Nat) (l:List (Tm n)) (m:Int):Bool:=decide (leftS n l m < 0)
theorem Great {n:Nat} (w:World) (B:Nat) (v:Value) (l:List (Tm n)) (m:Int) (hB:B ≤ w.heap.size) (hm0:-1 ≤ m) (hm:m ≤ 10000) (h:ItemsAt w B n v l):Calls Tryz.prog 30 #[v,.int .i64 m] w (BPost (greatS n l m) w):=by
 have hL:=leftAll n w B v l m hB hm0 hm h;unfold greatS;generalize leftS n l m = q at *;clear h;go_enter Tryz.func30,Tryz.ntmps30;go_wp2_with fail;refine hL.mono ?_;rintro e w1 ⟨rfl,hb⟩;go_wp2_with fail;go_ret;exact ⟨rfl,hb⟩
end tm
namespace names
open Go.RowKit
def okAt (k:Nat) (c:Nat):Bool:=decide (97 ≤ c∧c ≤ 122) || (decide (0 < k) && (decide (65 ≤ c∧c ≤ 90) || decide (48 ≤ c∧c ≤ 57) || decide (c = 95) || decide (c = 64)))
def vName (s:ByteArray):Bool:=decide (1 ≤ s.size∧s.size ≤ 32∧∀ k:Nat,(h:k < s.size)→okAt k (s[k]'h).toNat = true)
theorem vName_false {s:ByteArray} (k:Nat) (h:k < s.size) (hk:okAt k (s[k]'h).toNat = false):vName s = false:=by
 unfold vName;rw [decide_eq_false_iff_not];rintro ⟨_,_,h3⟩;rw [h3 k h] at hk;cases hk
theorem vName_true {s:ByteArray} (h1:1 ≤ s.size) (h2:s.size ≤ 32) (h3:∀ k:Nat,(h:k < s.size)→okAt k (s[k]'h).toNat = true):vName s = true:=by
 unfold vName;exact decide_eq_true ⟨h1,h2,h3⟩
theorem ret1b {a b:Bool} (h:a = b):Ending.returned (.bool a) = .returned (.bool b):=by rw [h]
theorem okAt_high (k c:Nat) (h:128 ≤ c):okAt k c = false:=by
 unfold okAt;simp;omega
theorem toList_len (s:ByteArray):s.toList.length = s.size:=by
 rw [ByteArray.toList_eq,Array.length_toList];rfl
theorem okAt_iff (k c:Nat):okAt k c = true↔(97 ≤ c∧c ≤ 122)∨(0 < k∧((65 ≤ c∧c ≤ 90)∨(48 ≤ c∧c ≤ 57)∨c = 95∨c = 64)):=by
 unfold okAt;simp [or_assoc]
theorem okAt_not (k c:Nat) (h:¬ ((97 ≤ c∧c ≤ 122)∨(0 < k∧((65 ≤ c∧c ≤ 90)∨(48 ≤ c∧c ≤ 57)∨c = 95∨c = 64)))):okAt k c = false:=by
 rw [Bool.eq_false_iff,ne_eq,okAt_iff];exact h
theorem classes (c:Nat) (h:c < 256):∃ lo hi:Int,∃ b1 b2:Bool,lo ≤ (c:Int)∧(c:Int) ≤ hi∧((c:Int) == 95) = b1∧((c:Int) == 64) = b2∧((c:Int) != 95) = !b1∧((c:Int) != 64) = !b2∧((lo = 0∧hi = 47∧b1 = false∧b2 = false)∨(lo = 48∧hi = 57∧b1 = false∧b2 = false)∨(lo = 58∧hi = 63∧b1 = false∧b2 = false)∨(lo = 64∧hi = 64∧b1 = false∧b2 = true)∨(lo = 65∧hi = 90∧b1 = false∧b2 = false)∨(lo = 91∧hi = 94∧b1 = false∧b2 = false)∨(lo = 95∧hi = 95∧b1 = true∧b2 = false)∨(lo = 96∧hi = 96∧b1 = false∧b2 = false)∨(lo = 97∧hi = 122∧b1 = false∧b2 = false)∨(lo = 123∧hi = 255∧b1 = false∧b2 = false)):=by
 have:c ≤ 47∨(48 ≤ c∧c ≤ 57)∨(58 ≤ c∧c ≤ 63)∨c = 64∨(65 ≤ c∧c ≤ 90)∨(91 ≤ c∧c ≤ 94)∨c = 95∨c = 96∨(97 ≤ c∧c ≤ 122)∨123 ≤ c:=by omega
 rcases this with h | h | h | h | h | h | h | h | h | h
 ·exact ⟨0,47,false,false,by omega,by omega,by simp <;> omega,by simp <;> omega,by simp <;> omega,by simp <;> omega,by simp⟩
 ·exact ⟨48,57,false,false,by omega,by omega,by simp <;> omega,by simp <;> omega,by simp <;> omega,by simp <;> omega,by simp⟩
 ·exact ⟨58,63,false,false,by omega,by omega,by simp <;> omega,by simp <;> omega,by simp <;> omega,by simp <;> omega,by simp⟩
 ·exact ⟨64,64,false,true,by omega,by omega,by simp <;> omega,by simp <;> omega,by simp <;> omega,by simp <;> omega,by simp⟩
 ·exact ⟨65,90,false,false,by omega,by omega,by simp <;> omega,by simp <;> omega,by simp <;> omega,by simp <;> omega,by simp⟩
 ·exact ⟨91,94,false,false,by omega,by omega,by simp <;> omega,by simp <;> omega,by simp <;> omega,by simp <;> omega,by simp⟩
 ·exact ⟨95,95,true,false,by omega,by omega,by simp <;> omega,by simp <;> omega,by simp <;> omega,by simp <;> omega,by simp⟩
 ·exact ⟨96,96,false,false,by omega,by omega,by simp <;> omega,by simp <;> omega,by simp <;> omega,by simp <;> omega,by simp⟩
 ·exact ⟨97,122,false,false,by omega,by omega,by simp <;> omega,by simp <;> omega,by simp <;> omega,by simp <;> omega,by simp⟩
 ·exact ⟨123,255,false,false,by omega,by omega,by simp <;> omega,by simp <;> omega,by simp <;> omega,by simp <;> omega,by simp⟩
theorem Valid (s:ByteArray) (w:World) :
 Calls Tryz.prog 65 #[.string s] w fun e w'=>e = .returned (.bool (vName s))∧Below w.heap.size w w':=by
 by_cases h1:s.size = 0
 ·have h3:s.toList.isEmpty = true:=by rw [List.isEmpty_iff,← List.length_eq_zero_iff,toList_len];exact h1
  go_enter Tryz.func65,Tryz.ntmps65;go_wp2_with fail;go_ret;exact ⟨ret1b (by unfold vName;symm;rw [decide_eq_false_iff_not];omega),Below.refl _ _⟩
 have h3:s.toList.isEmpty = false:=by rw [List.isEmpty_eq_false_iff];intro e;exact h1 (by rw [← toList_len,e];rfl)
 by_cases h2:32 < s.size
 ·go_enter Tryz.func65,Tryz.ntmps65;go_wp2_with fail;go_ret;exact ⟨ret1b (by unfold vName;symm;rw [decide_eq_false_iff_not];omega),Below.refl _ _⟩
 go_enter Tryz.func65,Tryz.ntmps65;go_wp2_with fail;go_loopw [3] (fun _ w'=>∃ pos:Nat,w' = w.iter s pos∧pos ≤ s.size∧∀ k:Nat,(h:k < s.size)→k < pos→okAt k (s[k]'h).toNat = true) (fun _ w'=>s.size - w'.iterPos w.heap.size)
 case atStart=>exact ⟨0,rfl,by omega,by omega⟩
 case round =>
  obtain ⟨pos,rfl,hpos,hall⟩:=hrel;have HALL:=Lib.hid hall;clear hall
  by_cases hp:pos < s.size
  ·by_cases ha:s[pos].toNat < 128
   ·have hnx:∀ ty,(Instr.next (.pointer (some ⟨w.heap.size,0,none⟩)) true ty).run Tryz.prog (w.iter s pos) = _:=fun ty=>run_next_ascii w s pos ty hp ha;have HP:Hid (pos = 0∨0 < pos):=Lib.hid (by omega);obtain ⟨lo,hi,b1,b2,c1,c2,c3,c4,c5,c6,hG⟩:=classes s[pos].toNat (by omega)
    rcases HP.out with hp0 | hp0
    ·subst hp0;rcases hG with ⟨rfl,rfl,rfl,rfl⟩ | ⟨rfl,rfl,rfl,rfl⟩ | ⟨rfl,rfl,rfl,rfl⟩ | ⟨rfl,rfl,rfl,rfl⟩ | ⟨rfl,rfl,rfl,rfl⟩ | ⟨rfl,rfl,rfl,rfl⟩ | ⟨rfl,rfl,rfl,rfl⟩ | ⟨rfl,rfl,rfl,rfl⟩ | ⟨rfl,rfl,rfl,rfl⟩ | ⟨rfl,rfl,rfl,rfl⟩
     all_goals go_wp2
     all_goals first
      | (go_ret
         exact ⟨ret1b (vName_false 0 hp (okAt_not _ _ (by omega))).symm,(Below.refl _ _).alloc (Nat.le_refl _) _⟩)
      | (go_roundw
         case rel=>exact ⟨0 + 1,rfl,by omega,fun k h hk=>by
          obtain rfl:k = 0:=by omega
          exact (okAt_iff _ _).2 (by omega)⟩
         case measure=>simp;omega)
      | (exfalso;simp only [Bool.not_eq_eq_eq_not,Bool.not_false,Bool.not_true,decide_eq_true_eq,decide_eq_false_iff_not] at *;omega)
    ·rcases hG with ⟨rfl,rfl,rfl,rfl⟩ | ⟨rfl,rfl,rfl,rfl⟩ | ⟨rfl,rfl,rfl,rfl⟩ | ⟨rfl,rfl,rfl,rfl⟩ | ⟨rfl,rfl,rfl,rfl⟩ | ⟨rfl,rfl,rfl,rfl⟩ | ⟨rfl,rfl,rfl,rfl⟩ | ⟨rfl,rfl,rfl,rfl⟩ | ⟨rfl,rfl,rfl,rfl⟩ | ⟨rfl,rfl,rfl,rfl⟩
     all_goals go_wp2
     all_goals first
      | (go_ret
         exact ⟨ret1b (vName_false pos hp (okAt_not _ _ (by omega))).symm,(Below.refl _ _).alloc (Nat.le_refl _) _⟩)
      | (go_roundw
         case rel =>
          refine ⟨pos + 1,rfl,by omega,fun k h hk=>?_⟩
          by_cases hkp:k < pos
          ·exact HALL.out k h hkp
          ·obtain rfl:k = pos:=by omega
           exact (okAt_iff _ _).2 (by omega)
         case measure=>simp;omega)
      | (exfalso;simp only [Bool.not_eq_eq_eq_not,Bool.not_false,Bool.not_true,decide_eq_true_eq,decide_eq_false_iff_not] at *;omega)
   ·have hnx:∀ ty,(Instr.next (.pointer (some ⟨w.heap.size,0,none⟩)) true ty).run Tryz.prog (w.iter s pos) = _:=fun ty=>run_next_any w s pos ty hp;have hr:=(decode_high s pos hp (by omega)).1;generalize hdr:(Utf8.decode s pos).1 = r at *;generalize hdw:(Utf8.decode s pos).2 = wd at *;clear hdr hdw;have q1:((r:Int) == 95) = false:=by simp;omega
    have q2:((r:Int) == 64) = false:=by simp;omega
    by_cases hp0:0 < pos
    all_goals go_wp2
    all_goals first
     | (go_ret
        exact ⟨ret1b (vName_false pos hp (okAt_high _ _ (by omega))).symm,(Below.refl _ _).alloc (Nat.le_refl _) _⟩)
     | (exfalso;simp only [Bool.not_eq_eq_eq_not,Bool.not_false,Bool.not_true,decide_eq_true_eq,decide_eq_false_iff_not] at *;omega)
  ·have hnx:∀ ty,(Instr.next (.pointer (some ⟨w.heap.size,0,none⟩)) true ty).run Tryz.prog (w.iter s pos) = _:=fun ty=>run_next_end w s pos ty hp;go_wp2
   go_ret;exact ⟨ret1b (vName_true (by omega) (by omega) (fun k h=>HALL.out k h (by omega))).symm,(Below.refl _ _).alloc (Nat.le_refl _) _⟩
end names
end Go.Proofs.YtpnlnbolhkcnjaaGreat
