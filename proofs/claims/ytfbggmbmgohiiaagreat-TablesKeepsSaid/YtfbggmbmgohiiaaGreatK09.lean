/- Texts of this seat, one behind the other: TmT, TmU, OrA, TmV, TmW. No condition beyond theirs. -/
import Derived.Lib.Bytealg
import Derived.Laws.Cover1
import Derived.WalkSpells
import Derived.Test.YtfbggmbmgohiiaaGreatK00
import Derived.Test.YtfbggmbmgohiiaaGreatK02
import Derived.Test.YtfbggmbmgohiiaaGreatK08
set_option linter.unusedSimpArgs false
set_option linter.unusedVariables false
set_option maxHeartbeats 4000000
set_option maxRecDepth 100000
namespace Go.Proofs.YtfbggmbmgohiiaaGreat.tm
open Go.RowKit mem
def cmpI (a b:Int):Int:=if a < b then -1 else if b < a then 1 else 0
def cmpB (a b:ByteArray):Int:=Lib.compareBytes a.data.toList b.data.toList
theorem ret1i {a b:Int} (h:a = b):Ending.returned (.int .i64 a) = .returned (.int .i64 b):=by rw [h]
theorem cb_less:∀ x y:List UInt8,Op.bytesLess x y = decide (Lib.compareBytes x y = -1)
 | [],[]=>rfl
 | [],_ :: _=>rfl
 | _ :: _,[]=>rfl
 | a :: x,b :: y=>by
  unfold Op.bytesLess Lib.compareBytes
  by_cases h:a < b
  ·simp [h]
  ·by_cases h2:b < a
   ·have:a ≠ b:=fun e=>by subst e;exact h h2
    simp [h,h2,this]
   ·have e:a = b:=by
     apply UInt8.toNat_inj.1
     have h1:¬ a.toNat < b.toNat:=h
     have h3:¬ b.toNat < a.toNat:=h2
     omega
    subst e
    simp [h,cb_less x y]
theorem cb_eq:∀ x y:List UInt8,(x == y) = decide (Lib.compareBytes x y = 0)
 | [],[]=>rfl
 | [],_ :: _=>rfl
 | _ :: _,[]=>rfl
 | a :: x,b :: y=>by
  unfold Lib.compareBytes
  have ih:=cb_eq x y
  by_cases h:a < b
  ·have:a ≠ b:=fun e=>by subst e;exact absurd h (Nat.lt_irrefl _)
   simp [h,this]
  ·by_cases h2:b < a
   ·have:a ≠ b:=fun e=>by subst e;exact h h2
    simp [h,h2,this]
   ·have e:a = b:=by
     apply UInt8.toNat_inj.1
     have h1:¬ a.toNat < b.toNat:=h
     have h3:¬ b.toNat < a.toNat:=h2
     omega
    subst e
    simp only [List.cons_beq_cons,beq_self_eq_true,Bool.true_and,h,if_false]
    exact ih
theorem cb_three:∀ x y:List UInt8,Lib.compareBytes x y = -1∨Lib.compareBytes x y = 0∨Lib.compareBytes x y = 1
 | [],[]=>.inr (.inl rfl)
 | [],_ :: _=>.inl rfl
 | _ :: _,[]=>.inr (.inr rfl)
 | a :: x,b :: y=>by
  unfold Lib.compareBytes
  by_cases h:a < b
  ·rw [if_pos h];exact .inl rfl
  ·rw [if_neg h]
   by_cases h2:b < a
   ·rw [if_pos h2];exact .inr (.inr rfl)
   ·rw [if_neg h2];exact cb_three x y
theorem cmpB_cases (a b:ByteArray):(cmpB a b = -1∧Op.bytesLess a.toList b.toList = true)∨(cmpB a b = 0∧Op.bytesLess a.toList b.toList = false∧(a.toList == b.toList) = true)∨(cmpB a b = 1∧Op.bytesLess a.toList b.toList = false∧(a.toList == b.toList) = false):=by
 unfold cmpB
 rw [ByteArray.toList_eq,ByteArray.toList_eq,cb_less,cb_eq]
 rcases cb_three a.data.toList b.data.toList with h | h | h <;> simp [h]
theorem isNaN77 (x:Int) (w:World):Calls Tryz.prog 153 #[.int .i64 x] w fun e w'=>e = .returned (.bool false)∧w = w':=by
 have q:(x != x) = false:=by simp
 go_enter Tryz.func153,Tryz.ntmps153
 go_wp2_with fail
 go_ret
 exact ⟨rfl,rfl⟩
theorem isNaN81 (x:Int) (w:World):Calls Tryz.prog 157 #[.int .i64 x] w fun e w'=>e = .returned (.bool false)∧w = w':=by
 have q:(x != x) = false:=by simp
 go_enter Tryz.func157,Tryz.ntmps157
 go_wp2_with fail
 go_ret
 exact ⟨rfl,rfl⟩
theorem isNaN86 (x:Int) (w:World):Calls Tryz.prog 160 #[.int .u8 x] w fun e w'=>e = .returned (.bool false)∧w = w':=by
 have q:(x != x) = false:=by simp
 go_enter Tryz.func160,Tryz.ntmps160
 go_wp2_with fail
 go_ret
 exact ⟨rfl,rfl⟩
theorem cmpInt (a b:Int) (w:World):Calls Tryz.prog 130 #[.int .i64 a,.int .i64 b] w fun e w'=>e = .returned (.int .i64 (cmpI a b))∧w = w':=by
 unfold cmpI
 by_cases h:a < b
 ·rw [if_pos h]
  have q1:decide (a < b) = true:=decide_eq_true h
  go_enter Tryz.func130,Tryz.ntmps130
  go_wp2_with (go_at_call 153;refine (isNaN77 _ _).mono ?_;rintro e w' ⟨rfl,rfl⟩)
  go_ret
  exact ⟨rfl,rfl⟩
 ·rw [if_neg h]
  have q1:decide (a < b) = false:=decide_eq_false h
  by_cases h2:b < a
  ·rw [if_pos h2]
   have q2:decide (b < a) = true:=decide_eq_true h2
   go_enter Tryz.func130,Tryz.ntmps130
   go_wp2_with (go_at_call 153;refine (isNaN77 _ _).mono ?_;rintro e w' ⟨rfl,rfl⟩)
   go_ret
   exact ⟨rfl,rfl⟩
  ·rw [if_neg h2]
   have q2:decide (b < a) = false:=decide_eq_false h2
   go_enter Tryz.func130,Tryz.ntmps130
   go_wp2_with (go_at_call 153;refine (isNaN77 _ _).mono ?_;rintro e w' ⟨rfl,rfl⟩)
   go_ret
   exact ⟨rfl,rfl⟩
theorem cmpInt64 (a b:Int) (w:World):Calls Tryz.prog 136 #[.int .i64 a,.int .i64 b] w fun e w'=>e = .returned (.int .i64 (cmpI a b))∧w = w':=by
 unfold cmpI
 by_cases h:a < b
 ·rw [if_pos h]
  have q1:decide (a < b) = true:=decide_eq_true h
  go_enter Tryz.func136,Tryz.ntmps136
  go_wp2_with (go_at_call 157;refine (isNaN81 _ _).mono ?_;rintro e w' ⟨rfl,rfl⟩)
  go_ret
  exact ⟨rfl,rfl⟩
 ·rw [if_neg h]
  have q1:decide (a < b) = false:=decide_eq_false h
  by_cases h2:b < a
  ·rw [if_pos h2]
   have q2:decide (b < a) = true:=decide_eq_true h2
   go_enter Tryz.func136,Tryz.ntmps136
   go_wp2_with (go_at_call 157;refine (isNaN81 _ _).mono ?_;rintro e w' ⟨rfl,rfl⟩)
   go_ret
   exact ⟨rfl,rfl⟩
  ·rw [if_neg h2]
   have q2:decide (b < a) = false:=decide_eq_false h2
   go_enter Tryz.func136,Tryz.ntmps136
   go_wp2_with (go_at_call 157;refine (isNaN81 _ _).mono ?_;rintro e w' ⟨rfl,rfl⟩)
   go_ret
   exact ⟨rfl,rfl⟩
theorem cmpByte (a b:Int) (w:World):Calls Tryz.prog 155 #[.int .u8 a,.int .u8 b] w fun e w'=>e = .returned (.int .i64 (cmpI a b))∧w = w':=by
 unfold cmpI
 by_cases h:a < b
 ·rw [if_pos h]
  have q1:decide (a < b) = true:=decide_eq_true h
  go_enter Tryz.func155,Tryz.ntmps155
  go_wp2_with (go_at_call 160;refine (isNaN86 _ _).mono ?_;rintro e w' ⟨rfl,rfl⟩)
  go_ret
  exact ⟨rfl,rfl⟩
 ·rw [if_neg h]
  have q1:decide (a < b) = false:=decide_eq_false h
  by_cases h2:b < a
  ·rw [if_pos h2]
   have q2:decide (b < a) = true:=decide_eq_true h2
   go_enter Tryz.func155,Tryz.ntmps155
   go_wp2_with (go_at_call 160;refine (isNaN86 _ _).mono ?_;rintro e w' ⟨rfl,rfl⟩)
   go_ret
   exact ⟨rfl,rfl⟩
  ·rw [if_neg h2]
   have q2:decide (b < a) = false:=decide_eq_false h2
   go_enter Tryz.func155,Tryz.ntmps155
   go_wp2_with (go_at_call 160;refine (isNaN86 _ _).mono ?_;rintro e w' ⟨rfl,rfl⟩)
   go_ret
   exact ⟨rfl,rfl⟩
theorem ints (a b:Int) (w:World):Calls Tryz.prog 108 #[.int .i64 a,.int .i64 b] w fun e w'=>e = .returned (.int .i64 (cmpI a b))∧w = w':=by
 unfold cmpI
 by_cases h:a < b
 ·rw [if_pos h]
  have q1:decide (a < b) = true:=decide_eq_true h
  go_enter Tryz.func108,Tryz.ntmps108
  go_wp2_with fail
  go_ret
  exact ⟨rfl,rfl⟩
 ·rw [if_neg h]
  have q1:decide (a < b) = false:=decide_eq_false h
  by_cases h2:b < a
  ·rw [if_pos h2]
   have q2:decide (b < a) = true:=decide_eq_true h2
   go_enter Tryz.func108,Tryz.ntmps108
   go_wp2_with fail
   go_ret
   exact ⟨rfl,rfl⟩
  ·rw [if_neg h2]
   have q2:decide (b < a) = false:=decide_eq_false h2
   go_enter Tryz.func108,Tryz.ntmps108
   go_wp2_with fail
   go_ret
   exact ⟨rfl,rfl⟩
theorem texts (a b:ByteArray) (w:World):Calls Tryz.prog 109 #[.string a,.string b] w fun e w'=>e = .returned (.int .i64 (cmpB a b))∧w = w':=by
 rcases cmpB_cases a b with ⟨h,q1⟩ | ⟨h,q1,q2⟩ | ⟨h,q1,q2⟩
 all_goals
  rw [h]
  clear h
  go_enter Tryz.func109,Tryz.ntmps109
  go_wp2_with fail
  go_ret
  exact ⟨rfl,rfl⟩
theorem cmpString80 (a b:ByteArray) (w:World):Calls Tryz.prog 156 #[.string a,.string b] w fun e w'=>e = .returned (.int .i64 (cmpB a b))∧w = w':=by
 go_enter Tryz.func156,Tryz.ntmps156
 go_wp2_with fail
 rw [run_callFunc_extern Tryz.func161 (by kernel_rfl) (by kernel_rfl) (by kernel_rfl) (e:=Extern.BytealgCompare.compare) (by kernel_rfl),Lib.run_compareString]
 simp only [Result.andThen]
 rw [Oper.upon_value]
 go_wp2_with fail
 go_ret
 exact ⟨rfl,rfl⟩
theorem cmpString (a b:ByteArray) (w:World):Calls Tryz.prog 135 #[.string a,.string b] w fun e w'=>e = .returned (.int .i64 (cmpB a b))∧w = w':=by
 go_enter Tryz.func135,Tryz.ntmps135
 go_wp2_with (go_at_call 156;refine (cmpString80 _ _ _).mono ?_;rintro e w' ⟨rfl,rfl⟩)
 go_ret
 exact ⟨rfl,rfl⟩
def firstL:List Int→Int
 | []=>0
 | x :: l=>if x = 0 then firstL l else x
theorem first_at:∀ (l:List Int) (k:Nat) (h:k < l.length),(∀ j,(hj:j < l.length)→j < k→l[j] = 0)→l[k] ≠ 0→firstL l = l[k]
 | x :: l,0,h,_,hn=>by
  unfold firstL
  rw [if_neg (by simpa using hn)];rfl
 | x :: l,k + 1,h,ha,hn=>by
  unfold firstL
  have h0:x = 0:=ha 0 (by simp) (by omega)
  rw [if_pos h0,first_at l k (by simpa using h) (fun j hj hk=>ha (j + 1) (by simpa using hj) (by omega)) (by simpa using hn)];rfl
theorem first_zero:∀ (l:List Int),(∀ j,(hj:j < l.length)→l[j] = 0)→firstL l = 0
 | [],_=>rfl
 | x :: l,h=>by
  unfold firstL
  have h0:x = 0:=h 0 (by simp)
  rw [if_pos h0,first_zero l (fun j hj=>h (j + 1) (by simpa using hj))]
theorem firstOr (w:World) (g:Nat) (l:List Int) (c:Nat) (hc:l.length ≤ 1000) (hcell:∀ j,(h:j < l.length)→w.cell? ⟨g,j,none⟩ = some (.int .i64 l[j])) :
 Calls Tryz.prog 134 #[.slice (some ⟨g,0,none⟩) l.length c] w fun e w'=>e = .returned (.int .i64 (firstL l))∧w = w':=by
 have HC:=Lib.hid hcell
 clear hcell
 go_enter Tryz.func134,Tryz.ntmps134
 go_wp2_with fail
 go_loop [8] (fun i=>∃ k:Nat,i = .int .i64 k∧k ≤ l.length∧Hid (∀ j,(h:j < l.length)→j < k→l[j] = 0)) (fun i=>l.length - (intOf i).toNat)
 case atStart=>exact ⟨0,rfl,by omega,Lib.hid (fun j h hk=>by omega)⟩
 case round =>
  obtain ⟨k,rfl,hk,HA⟩:=hrel
  by_cases hlt:k < l.length
  ·have hcl:=HC.out k hlt
   have HAt:=Lib.hid (first_at l k hlt HA.out)
   have HA2:Hid (l[k] = 0→∀ j,(h:j < l.length)→j < k + 1→l[j] = 0):=Lib.hid (fun e j h hj=>by
    by_cases e2:j = k
    ·subst e2;exact e
    ·exact HA.out j h (by omega))
   generalize l[k] = x at *
   by_cases hx:x = 0
   ·subst hx
    have H2:=Lib.hid (HA2.out rfl)
    clear HAt HA2
    go_wp2_with fail
    go_round
    case rel=>exact ⟨k + 1,by go_num,by omega,H2⟩
    case measure=>simp [intOf];omega
   ·have q:(x != 0) = true:=by simp [hx]
    have HF:=Lib.hid (HAt.out hx)
    clear HAt HA2 hx
    go_wp2_with fail
    go_ret
    exact ⟨ret1i HF.out.symm,rfl⟩
  ·have HF:=Lib.hid (first_zero l (fun j hj=>HA.out j hj (by omega)))
   go_wp2_with fail
   go_ret
   exact ⟨ret1i HF.out.symm,rfl⟩
def eachC {α:Type} (c:α→α→Int):List α→List α→Int
 | a :: l,b :: m=>if c a b = 0 then eachC c l m else c a b
 | _,_=>0
def itemsC {α:Type} (c:α→α→Int) (l m:List α):Int:=if l.length = m.length then eachC c l m else cmpI l.length m.length
def cellsC {α:Type} (kd:α→Int) (c:α→α→Int):α→List α→α→List α→Int
 | a,[],b,[]=>c a b
 | a,[],_,_ :: _=>cmpI (kd a) 9
 | _,_ :: _,b,[]=>cmpI 9 (kd b)
 | a,x :: l,b,y :: m=>if c a b = 0 then cellsC kd c x l y m else c a b
def listsC {α:Type} (kd:α→Int) (c:α→α→Int):List α→List α→Int
 | a :: l,b :: m=>cellsC kd c a l b m
 | _,_=>0
end Go.Proofs.YtfbggmbmgohiiaaGreat.tm
namespace Go.Proofs.YtfbggmbmgohiiaaGreat.tm
structure TP {α:Type} (S:α→Prop) (c:α→α→Int):Prop where
 range:∀ a b,c a b = -1∨c a b = 0∨c a b = 1
 anti:∀ a b,c b a = - c a b
 trans:∀ a b d,S a→S b→S d→c a b ≤ 0→c b d ≤ 0→c a d ≤ 0
theorem TP.refl {α:Type} {S:α→Prop} {c:α→α→Int} (h:TP S c) (a:α):c a a = 0:=by have:=h.anti a a;omega
theorem TP.zero {α:Type} {S:α→Prop} {c:α→α→Int} (h:TP S c) {a b d:α} (ha:S a) (hb:S b) (hd:S d) (h1:c a b ≤ 0) (h2:c b d ≤ 0) (h3:c a d = 0):c a b = 0∧c b d = 0:=by
 have e:=h.anti a d
 have h4:=h.trans b d a hb hd ha h2 (by omega)
 have h5:=h.trans d a b hd ha hb (by omega) h1
 have e1:=h.anti a b
 have e2:=h.anti b d
 omega
theorem TP.mono {α:Type} {S S':α→Prop} {c:α→α→Int} (h:TP S c) (hs:∀ a,S' a→S a):TP S' c:=⟨h.range,h.anti,fun a b d x y z=>h.trans a b d (hs _ x) (hs _ y) (hs _ z)⟩
theorem TP.comap {α β:Type} {S:α→Prop} {c:α→α→Int} (h:TP S c) (f:β→α):TP (fun x=>S (f x)) (fun x y=>c (f x) (f y)):=⟨fun a b=>h.range _ _,fun a b=>h.anti _ _,fun a b d x y z=>h.trans _ _ _ x y z⟩
def thenC {α:Type} (c1 c2:α→α→Int) (a b:α):Int:=if c1 a b = 0 then c2 a b else c1 a b
theorem TP.then {α:Type} {S:α→Prop} {c1 c2:α→α→Int} (h1:TP S c1) (h2:TP S c2):TP S (thenC c1 c2):=by
 refine ⟨fun a b=>?_,fun a b=>?_,fun a b d ha hb hd x y=>?_⟩
 ·unfold thenC;split
  ·exact h2.range a b
  ·exact h1.range a b
 ·have e1:=h1.anti a b
  have e2:=h2.anti a b
  unfold thenC;split <;> split <;> omega
 ·have k1:c1 a b ≤ 0:=by unfold thenC at x;split at x <;> omega
  have k2:c1 b d ≤ 0:=by unfold thenC at y;split at y <;> omega
  have k3:=h1.trans a b d ha hb hd k1 k2
  unfold thenC
  split
  next e =>
   have ⟨e1,e2⟩:=h1.zero ha hb hd k1 k2 e
   unfold thenC at x y
   rw [if_pos e1] at x
   rw [if_pos e2] at y
   exact h2.trans a b d ha hb hd x y
  next=>exact k3
theorem cmpI_range (a b:Int):cmpI a b = -1∨cmpI a b = 0∨cmpI a b = 1:=by unfold cmpI;split <;> (try split) <;> simp
theorem cmpI_anti (a b:Int):cmpI b a = - cmpI a b:=by
 unfold cmpI
 by_cases h:a < b
 ·rw [if_pos h,if_neg (by omega),if_pos h];rfl
 ·by_cases h2:b < a
  ·rw [if_pos h2,if_neg h,if_pos h2]
  ·rw [if_neg h,if_neg h2,if_neg h2,if_neg h];rfl
theorem cmpI_le {a b:Int}:cmpI a b ≤ 0↔a ≤ b:=by unfold cmpI;split <;> (try split) <;> omega
theorem cmpI_lt {a b:Int}:cmpI a b < 0↔a < b:=by unfold cmpI;split <;> (try split) <;> omega
theorem cmpI_z {a b:Int}:cmpI a b = 0↔a = b:=by unfold cmpI;split <;> (try split) <;> omega
theorem tpI:TP (fun _=>True) cmpI:=⟨cmpI_range,cmpI_anti,fun a b d _ _ _ x y=>by rw [cmpI_le] at *;omega⟩
def lexG {α:Type} (c:α→α→Int):List α→List α→Int
 | [],[]=>0
 | [],_ :: _=>-1
 | _ :: _,[]=>1
 | a :: l,b :: m=>if c a b = 0 then lexG c l m else c a b
theorem lexG_range {α:Type} {c:α→α→Int} (h:∀ a b,c a b = -1∨c a b = 0∨c a b = 1):∀ l m,lexG c l m = -1∨lexG c l m = 0∨lexG c l m = 1
 | [],[]=>.inr (.inl rfl)
 | [],_ :: _=>.inl rfl
 | _ :: _,[]=>.inr (.inr rfl)
 | a :: l,b :: m=>by
  unfold lexG;split
  ·exact lexG_range h l m
  ·exact h a b
theorem lexG_anti {α:Type} {c:α→α→Int} (h:∀ a b,c b a = - c a b):∀ l m,lexG c m l = - lexG c l m
 | [],[]=>rfl
 | [],_ :: _=>rfl
 | _ :: _,[]=>rfl
 | a :: l,b :: m=>by
  have e:=h a b
  have ih:=lexG_anti h l m
  unfold lexG;split <;> split <;> omega
theorem TP.lex {α:Type} {S:α→Prop} {c:α→α→Int} (h:TP S c):TP (fun l=>∀ x ∈ l,S x) (lexG c):=by
 refine ⟨lexG_range h.range,lexG_anti h.anti,?_⟩
 intro a
 induction a with
 | nil =>
  intro b d _ _ _ _ _
  cases d <;> simp [lexG]
 | cons x l ih =>
  intro b d ha hb hd h1 h2
  cases b with
  | nil=>simp [lexG] at h1
  | cons y m =>
   cases d with
   | nil=>simp [lexG] at h2
   | cons z k =>
    have hx:=ha x (by simp)
    have hy:=hb y (by simp)
    have hz:=hd z (by simp)
    unfold lexG at h1 h2 ⊢
    have k1:c x y ≤ 0:=by split at h1 <;> omega
    have k2:c y z ≤ 0:=by split at h2 <;> omega
    split
    next e =>
     have ⟨e1,e2⟩:=h.zero hx hy hz k1 k2 e
     rw [if_pos e1] at h1
     rw [if_pos e2] at h2
     exact ih m k (fun u hu=>ha u (by simp [hu])) (fun u hu=>hb u (by simp [hu])) (fun u hu=>hd u (by simp [hu])) h1 h2
    next=>exact h.trans _ _ _ hx hy hz k1 k2
theorem lexG_eq {α:Type} {c:α→α→Int}:∀ (l m:List α),(∀ x ∈ l,∀ y ∈ m,c x y = 0→x = y)→lexG c l m = 0→l = m
 | [],[],_,_=>rfl
 | [],_ :: _,_,h=>by simp [lexG] at h
 | _ :: _,[],_,h=>by simp [lexG] at h
 | a :: l,b :: m,hz,h=>by
  unfold lexG at h
  split at h
  next e =>
   rw [hz a (by simp) b (by simp) e,lexG_eq l m (fun x hx y hy=>hz x (by simp [hx]) y (by simp [hy])) h]
  next e=>exact absurd h e
theorem each_lex {α:Type} (c:α→α→Int):∀ (l m:List α),l.length = m.length→eachC c l m = lexG c l m
 | [],[],_=>rfl
 | a :: l,b :: m,h=>by
  unfold eachC lexG
  rw [each_lex c l m (by simpa using h)]
theorem items_then {α:Type} (c:α→α→Int) (l m:List α):itemsC c l m = thenC (fun (l m:List α)=>cmpI l.length m.length) (lexG c) l m:=by
 unfold itemsC thenC
 by_cases h:l.length = m.length
 ·rw [if_pos h,if_pos (cmpI_z.2 (by omega)),each_lex c l m h]
 ·rw [if_neg h,if_neg (fun e=>h (by have:=cmpI_z.1 e;omega))]
theorem TP.items {α:Type} {S:α→Prop} {c:α→α→Int} (h:TP S c):TP (fun l=>∀ x ∈ l,S x) (itemsC c):=by
 have e:itemsC c = thenC (fun (l m:List α)=>cmpI l.length m.length) (lexG c):=by funext l m;exact items_then c l m
 rw [e]
 exact TP.then ((TP.comap tpI (fun l:List α=>(l.length:Int))).mono (fun _ _=>trivial)) h.lex
theorem items_eq {α:Type} {c:α→α→Int} (l m:List α) (hz:∀ x ∈ l,∀ y ∈ m,c x y = 0→x = y) (h:itemsC c l m = 0):l = m:=by
 rw [items_then] at h
 unfold thenC at h
 split at h
 ·exact lexG_eq l m hz h
 ·contradiction
def cmpU (a b:UInt8):Int:=cmpI a.toNat b.toNat
theorem tpU:TP (fun _=>True) cmpU:=TP.comap tpI (fun a:UInt8=>(a.toNat:Int))
theorem cb_lex:∀ x y:List UInt8,Lib.compareBytes x y = lexG cmpU x y
 | [],[]=>rfl
 | [],_ :: _=>rfl
 | _ :: _,[]=>rfl
 | a :: x,b :: y=>by
  unfold Lib.compareBytes lexG
  by_cases h:a < b
  ·have h':a.toNat < b.toNat:=h
   have e:cmpU a b = -1:=by unfold cmpU cmpI;rw [if_pos (by omega)]
   rw [if_pos h,e];rfl
  ·have h':¬ a.toNat < b.toNat:=h
   by_cases h2:b < a
   ·have h2':b.toNat < a.toNat:=h2
    have e:cmpU a b = 1:=by unfold cmpU cmpI;rw [if_neg (by omega),if_pos (by omega)]
    rw [if_neg h,if_pos h2,e];rfl
   ·have h2':¬ b.toNat < a.toNat:=h2
    have e:cmpU a b = 0:=by unfold cmpU cmpI;rw [if_neg (by omega),if_neg (by omega)]
    rw [if_neg h,if_neg h2,e,cb_lex x y];rfl
theorem tpB:TP (fun _=>True) cmpB:=by
 have e:cmpB = fun x y=>lexG cmpU x.data.toList y.data.toList:=by funext x y;exact cb_lex _ _
 rw [e]
 exact (TP.comap tpU.lex (fun x:ByteArray=>x.data.toList)).mono (fun _ _ _ _=>trivial)
theorem cmpU_eq {a b:UInt8} (h:cmpU a b = 0):a = b:=UInt8.toNat_inj.1 (by have:=cmpI_z.1 h;omega)
theorem cb_eq0 {x y:List UInt8} (h:Lib.compareBytes x y = 0):x = y:=by
 rw [cb_lex] at h
 exact lexG_eq x y (fun _ _ _ _ h=>cmpU_eq h) h
theorem cmpB_eq {a b:ByteArray} (h:cmpB a b = 0):a = b:=ByteArray.ext (Array.ext' (cb_eq0 h))
theorem cells_range {α:Type} {kd:α→Int} {c:α→α→Int} (h:∀ a b,c a b = -1∨c a b = 0∨c a b = 1):∀ a l b m,cellsC kd c a l b m = -1∨cellsC kd c a l b m = 0∨cellsC kd c a l b m = 1
 | a,[],b,[]=>h a b
 | a,[],_,_ :: _=>cmpI_range _ _
 | _,_ :: _,b,[]=>cmpI_range _ _
 | a,x :: l,b,y :: m=>by
  unfold cellsC;split
  ·exact cells_range h x l y m
  ·exact h a b
theorem cells_anti {α:Type} {kd:α→Int} {c:α→α→Int} (h:∀ a b,c b a = - c a b):∀ a l b m,cellsC kd c b m a l = - cellsC kd c a l b m
 | a,[],b,[]=>h a b
 | a,[],_,_ :: _=>cmpI_anti _ _
 | _,_ :: _,b,[]=>cmpI_anti _ _
 | a,x :: l,b,y :: m=>by
  have e:=h a b
  have ih:=cells_anti (kd:=kd) h x l y m
  unfold cellsC;split <;> split <;> omega
def GoodC {α:Type} (S:α→Prop) (kd:α→Int):α→List α→Prop
 | a,[]=>S a∧kd a ≠ 9
 | a,x :: l=>S a∧GoodC S kd x l
theorem GoodC.head {α:Type} {S:α→Prop} {kd:α→Int} {a:α} {l:List α} (h:GoodC S kd a l):S a:=by cases l <;> exact h.1
theorem cells_trans {α:Type} {S:α→Prop} {kd:α→Int} {c:α→α→Int} (h:TP S c) (hk:∀ a b,kd a ≠ kd b→c a b = cmpI (kd a) (kd b)) :
 ∀ l a m b k d,GoodC S kd a l→GoodC S kd b m→GoodC S kd d k→cellsC kd c a l b m ≤ 0→cellsC kd c b m d k ≤ 0→cellsC kd c a l d k ≤ 0:=by
 have hle:∀ a b,c a b ≤ 0→kd a ≤ kd b:=fun a b x=>by
  by_cases e:kd a = kd b
  ·omega
  ·rw [hk a b e,cmpI_le] at x;exact x
 have hlt:∀ a b,kd a < kd b→c a b ≤ 0:=fun a b x=>by rw [hk a b (by omega),cmpI_le];omega
 intro l
 induction l with
 | nil =>
  intro a m b k d ha hb hd x y
  cases m with
  | nil =>
   cases k with
   | nil=>exact h.trans _ _ _ ha.1 hb.1 hd.1 x y
   | cons z k =>
    have x':c a b ≤ 0:=x
    have y':cmpI (kd b) 9 ≤ 0:=y
    show cmpI (kd a) 9 ≤ 0
    have:=hle _ _ x'
    rw [cmpI_le] at *;omega
  | cons u m =>
   have x':cmpI (kd a) 9 ≤ 0:=x
   cases k with
   | nil =>
    have y':cmpI 9 (kd d) ≤ 0:=y
    have:=ha.2
    rw [cmpI_le] at x' y'
    exact hlt a d (by omega)
   | cons z k=>exact x
 | cons u l ih =>
  intro a m b k d ha hb hd x y
  cases m with
  | nil =>
   have x':cmpI 9 (kd b) ≤ 0:=x
   have:=hb.2
   cases k with
   | nil =>
    have y':c b d ≤ 0:=y
    show cmpI 9 (kd d) ≤ 0
    have:=hle _ _ y'
    rw [cmpI_le] at *;omega
   | cons z k =>
    have y':cmpI (kd b) 9 ≤ 0:=y
    rw [cmpI_le] at x' y'
    omega
  | cons v m =>
   cases k with
   | nil=>exact y
   | cons z k =>
    unfold cellsC at x y ⊢
    have k1:c a b ≤ 0:=by split at x <;> omega
    have k2:c b d ≤ 0:=by split at y <;> omega
    split
    next e =>
     have ⟨e1,e2⟩:=h.zero ha.head hb.head hd.head k1 k2 e
     rw [if_pos e1] at x
     rw [if_pos e2] at y
     exact ih u m v k z ha.2 hb.2 hd.2 x y
    next=>exact h.trans _ _ _ ha.head hb.head hd.head k1 k2
theorem cells_eq {α:Type} {S:α→Prop} {kd:α→Int} {c:α→α→Int} (hz:∀ a b,S a→S b→c a b = 0→a = b):∀ l a m b,GoodC S kd a l→GoodC S kd b m→cellsC kd c a l b m = 0→a = b∧l = m
 | [],a,[],b,ha,hb,h=>⟨hz a b ha.1 hb.1 h,rfl⟩
 | [],a,_ :: _,b,ha,hb,h=>absurd (cmpI_z.1 h) ha.2
 | _ :: _,a,[],b,ha,hb,h=>absurd (cmpI_z.1 h).symm hb.2
 | u :: l,a,v :: m,b,ha,hb,h=>by
  unfold cellsC at h
  split at h
  next e =>
   obtain ⟨e1,e2⟩:=cells_eq hz l u m v ha.2 hb.2 h
   exact ⟨hz a b ha.1 hb.1 e,by rw [e1,e2]⟩
  next e=>exact absurd h e
def GoodL {α:Type} (S:α→Prop) (kd:α→Int):List α→Prop
 | []=>True
 | a :: l=>GoodC S kd a l
theorem TP.lists {α:Type} {S:α→Prop} {kd:α→Int} {c:α→α→Int} (h:TP S c) (hk:∀ a b,kd a ≠ kd b→c a b = cmpI (kd a) (kd b)):TP (fun l=>l ≠ []∧GoodL S kd l) (listsC kd c):=by
 refine ⟨fun l m=>?_,fun l m=>?_,fun l m k ha hb hd x y=>?_⟩
 ·cases l with
  | nil=>exact .inr (.inl rfl)
  | cons a l=>cases m with
   | nil=>exact .inr (.inl rfl)
   | cons b m=>exact cells_range h.range a l b m
 ·cases l with
  | nil=>cases m <;> rfl
  | cons a l=>cases m with
   | nil=>rfl
   | cons b m=>exact cells_anti h.anti a l b m
 ·cases l with
  | nil=>exact absurd rfl ha.1
  | cons a l=>cases m with
   | nil=>exact absurd rfl hb.1
   | cons b m=>cases k with
    | nil=>exact absurd rfl hd.1
    | cons d k=>exact cells_trans h hk l a m b k d ha.2 hb.2 hd.2 x y
end Go.Proofs.YtfbggmbmgohiiaaGreat.tm
namespace Go.Proofs.YtfbggmbmgohiiaaGreat.tm
open Go.RowKit mem names
def headC (f1 f2:TF):Int:=firstL [cmpB f1.name f2.name,cmpB f1.func f2.func,cmpI f1.gen f2.gen,cmpI f1.int f2.int,cmpI f1.arity f2.arity]
def bitsC (f1 f2:TF):Int :=
 let n:=(min f1.bits f2.bits).toNat
 let k:=Lib.compareBytes (f1.bytes.data.toList.take (n / 8)) (f2.bytes.data.toList.take (n / 8))
 if k = 0 then
  (if n % 8 = 0 then cmpI f1.bits f2.bits else
    (let x:=((f1.bytes.data.toList.getD (n / 8) 0).toNat / 2 ^ (8 - n % 8):Nat)
     let y:=((f2.bytes.data.toList.getD (n / 8) 0).toNat / 2 ^ (8 - n % 8):Nat)
     if cmpI x y = 0 then cmpI f1.bits f2.bits else cmpI x y))
 else k
def cmpF {α:Type} (kd:α→Int) (c:α→α→Int) (f1 f2:TF) (l1 l2:List α):Int :=
 if f1.kind = f2.kind then
  (if f1.kind = 7 then itemsC c l1 l2 else if f1.kind = 9 then listsC kd c l1 l2 else if f1.kind = 10 then bitsC f1 f2 else if headC f1 f2 = 0 then itemsC c l1 l2 else headC f1 f2)
 else cmpI f1.kind f2.kind
def kdT:(n:Nat)→Tm n→Int
 | 0,_=>0
 | n + 1,t=>t.f.kind
def cmpTm:(n:Nat)→Tm n→Tm n→Int
 | 0,_,_=>0
 | n + 1,a,b=>cmpF (kdT n) (cmpTm n) a.f b.f a.items b.items
def IPostC (r:Int) (w:World) (e:Ending) (w':World):Prop:=e = .returned (.int .i64 r)∧Below w.heap.size w w'
def CmpS (n:Nat):Prop:=∀ (w:World) (B:Nat) (v1 v2:Value) (a b:Tm (n + 1)),B ≤ w.heap.size→ItemsAt w B n v1 a.items→ItemsAt w B n v2 b.items→formedT a = true→formedT b = true→Calls Tryz.prog 121 #[aggV a.f v1,aggV b.f v2] w (IPostC (cmpTm (n + 1) a b) w)
theorem formed_at {n:Nat} {l:List (Tm (n + 1))} (hf:formedL (n + 1) l = true) (j:Nat) (h:j < l.length):formedT l[j] = true:=by
 unfold formedL at hf
 rw [List.all_eq_true] at hf
 exact hf l[j] (List.getElem_mem h)
theorem pairEl {n:Nat} (ih:∀ m,n = m + 1→CmpS m) (w:World) (B:Nat) (p1 p2:Option Addr) (n1 n2 c1 c2:Nat) (l1 l2:List (Tm n)) (hB:B ≤ w.heap.size) (h1:ItemsAt w B n (.slice p1 n1 c1) l1) (h2:ItemsAt w B n (.slice p2 n2 c2) l2) (f1:formedL n l1 = true) (f2:formedL n l2 = true) :
 ∀ i j,(hi:i < l1.length)→(hj:j < l2.length)→∃ g1 o1 x1 q1 m1 d1 g2 o2 x2 q2 m2 d2,p1 = some ⟨g1,o1,none⟩∧g1 < w.heap.size∧Cells w g1 (o1 + i * 9) x1 (.slice q1 m1 d1)∧p2 = some ⟨g2,o2,none⟩∧g2 < w.heap.size∧Cells w g2 (o2 + j * 9) x2 (.slice q2 m2 d2) ∧
  x1.kind = kdT n l1[i]∧x2.kind = kdT n l2[j]∧∀ W,Below w.heap.size w W→Calls Tryz.prog 121 #[aggV x1 (.slice q1 m1 d1),aggV x2 (.slice q2 m2 d2)] W (IPostC (cmpTm n l1[i] l2[j]) W):=by
 cases n with
 | zero=>intro i j hi;rw [Tm.nil0 l1] at hi;exact absurd hi (by simp)
 | succ n =>
  intro i j hi hj
  obtain ⟨g1,o1,d1,e1,_,_,hg1,hx1⟩:=h1.at_ (by intro e;subst e;simp at hi)
  obtain ⟨u1,hC1,hI1⟩:=hx1 i hi
  obtain ⟨g2,o2,d2,e2,_,_,hg2,hx2⟩:=h2.at_ (by intro e;subst e;simp at hj)
  obtain ⟨u2,hC2,hI2⟩:=hx2 j hj
  simp only [Value.slice.injEq] at e1 e2
  obtain ⟨q1,c1',rfl,_,_⟩:=hI1.shape
  obtain ⟨q2,c2',rfl,_,_⟩:=hI2.shape
  refine ⟨g1,o1,l1[i].f,q1,_,c1',g2,o2,l2[j].f,q2,_,c2',e1.1,by omega,hC1,e2.1,by omega,hC2,rfl,rfl,fun W hb=>?_⟩
  exact ih n rfl W B _ _ l1[i] l2[j] (Nat.le_trans hB hb.size) (hI1.below hb hB) (hI2.below hb hB) (formed_at f1 i hi) (formed_at f2 j hj)
theorem each_at {α:Type} (c:α→α→Int):∀ (l m:List α) (k:Nat) (h1:k < l.length) (h2:k < m.length),(∀ j,(a:j < l.length)→(b:j < m.length)→j < k→c l[j] m[j] = 0)→c l[k] m[k] ≠ 0→eachC c l m = c l[k] m[k]
 | x :: l,y :: m,0,h1,h2,_,hn=>by
  unfold eachC
  rw [if_neg (show ¬ c x y = 0 from hn)];rfl
 | x :: l,y :: m,k + 1,h1,h2,ha,hn=>by
  unfold eachC
  rw [if_pos (show c x y = 0 from ha 0 (by simp) (by simp) (by omega)),each_at c l m k (by simpa using h1) (by simpa using h2) (fun j a b hk=>ha (j + 1) (by simpa using a) (by simpa using b) (by omega)) hn];rfl
theorem each_zero {α:Type} (c:α→α→Int):∀ (l m:List α),l.length = m.length→(∀ j,(a:j < l.length)→(b:j < m.length)→c l[j] m[j] = 0)→eachC c l m = 0
 | [],[],_,_=>rfl
 | x :: l,y :: m,hl,ha=>by
  unfold eachC
  rw [if_pos (show c x y = 0 from ha 0 (by simp) (by simp)),each_zero c l m (by simpa using hl) (fun j a b=>ha (j + 1) (by simpa using a) (by simpa using b))]
theorem eachW {n:Nat} (ih:∀ m,n = m + 1→CmpS m) (w:World) (B:Nat) (v1 v2:Value) (l1 l2:List (Tm n)) (hB:B ≤ w.heap.size) (h1:ItemsAt w B n v1 l1) (h2:ItemsAt w B n v2 l2) (f1:formedL n l1 = true) (f2:formedL n l2 = true) (hl:l1.length = l2.length) :
 Calls Tryz.prog 154 #[v1,v2,.func (.func 121) #[] #[]] w (IPostC (eachC (cmpTm n) l1 l2) w):=by
 obtain ⟨p1,c1,rfl,hc1,hm1⟩:=h1.shape
 obtain ⟨p2,c2,rfl,hc2,hm2⟩:=h2.shape
 unfold maxLen at hm1 hm2
 have HP:=Lib.hid (pairEl ih w B p1 p2 _ _ c1 c2 l1 l2 hB h1 h2 f1 f2)
 have HAt:=Lib.hid (each_at (cmpTm n) l1 l2)
 have HZ:=Lib.hid (each_zero (cmpTm n) l1 l2 hl)
 generalize eachC (cmpTm n) l1 l2 = r at *
 have HL:=Lib.hid hl
 rw [← hl] at hc2
 rw [← hl]
 clear ih h1 h2 f1 f2 hl
 go_enter Tryz.func154,Tryz.ntmps154
 go_wp2_with fail
 go_loopw [11] (fun s wr=>∃ k:Nat,s = .int .i64 k∧k ≤ l1.length∧Hid (∀ j,(a:j < l1.length)→(b:j < l2.length)→j < k→cmpTm n l1[j] l2[j] = 0)∧Below w.heap.size w wr) (fun s _=>l1.length - (intOf s).toNat)
 case atStart=>exact ⟨0,rfl,by omega,Lib.hid (fun j _ _ h=>by omega),Below.refl _ _⟩
 case round =>
  obtain ⟨k,rfl,hk,HA,hb⟩:=hrel
  by_cases hlt:k < l1.length
  ·have hkb:k < l2.length:=by have:=HL.out;omega
   obtain ⟨g1,o1,x1,q1,m1,d1,g2,o2,x2,q2,m2,d2,rfl,hg1,hC1,rfl,hg2,hC2,ek1,ek2,hCall⟩:=HP.out k k hlt hkb
   clear ek1 ek2
   have hC1:=hC1.same (hb.block g1 hg1)
   have hC2:=hC2.same (hb.block g2 hg2)
   obtain ⟨x10,x11,x12,x13,x14,x15,x16,x17,x18⟩:=hC1
   obtain ⟨y10,y11,y12,y13,y14,y15,y16,y17,y18⟩:=hC2
   have hb':Below w.heap.size w wr.drew:=hb.drewN 1
   have HC:=Lib.hid (hCall wr.drew hb')
   clear hCall
   have HA1:=Lib.hid (HAt.out k hlt hkb HA.out)
   have HA2:Hid (cmpTm n l1[k] l2[k] = 0→∀ j,(a:j < l1.length)→(b:j < l2.length)→j < k + 1→cmpTm n l1[j] l2[j] = 0):=Lib.hid (fun e j a b hj=>by
    by_cases e2:j = k
    ·subst e2;exact e
    ·exact HA.out j a b (by omega))
   generalize cmpTm n l1[k] l2[k] = x at *
   unfold aggV IPostC at HC
   go_wp2_with fail
   go_still_tail 9,(by kernel_rfl)
   change wpList _ _ _ _ _ wr.drew
   clear x10 x11 x12 x13 x14 x15 x16 x17 x18 y10 y11 y12 y13 y14 y15 y16 y17 y18
   generalize wr.drew = w2 at *
   go_wp2_with fail
   refine HC.out.mono ?_
   rintro e w3 ⟨rfl,hb3⟩
   have hb4:Below w.heap.size w w3:=hb'.trans (hb3.mono hb'.size)
   by_cases hx:x = 0
   ·subst hx
    have H2:=Lib.hid (HA2.out rfl)
    clear HA1 HA2
    go_wp2_with fail
    go_roundw
    case rel=>exact ⟨k + 1,by go_num,by omega,H2,hb4⟩
    case measure=>simp [intOf];omega
   ·have q:(x != 0) = true:=by simp [hx]
    have HF:=Lib.hid (HA1.out hx)
    clear HA1 HA2 hx
    go_wp2_with fail
    go_ret
    exact ⟨ret1i HF.out.symm,hb4⟩
  ·have HF:=Lib.hid (HZ.out (fun j a b=>HA.out j a b (by omega)))
   go_wp2_with fail
   go_ret
   exact ⟨ret1i HF.out.symm,hb⟩
theorem cmpI_0 {a b:Int} (h:a = b):cmpI a b = 0:=by subst h;unfold cmpI;simp
theorem cmpI_ne {a b:Int} (h:a ≠ b):cmpI a b ≠ 0:=by unfold cmpI;split <;> (try split) <;> omega
theorem itemsW {n:Nat} (ih:∀ m,n = m + 1→CmpS m) (w:World) (B:Nat) (v1 v2:Value) (l1 l2:List (Tm n)) (hB:B ≤ w.heap.size) (h1:ItemsAt w B n v1 l1) (h2:ItemsAt w B n v2 l2) (f1:formedL n l1 = true) (f2:formedL n l2 = true) :
 Calls Tryz.prog 131 #[v1,v2] w (IPostC (itemsC (cmpTm n) l1 l2) w):=by
 have hE:=fun h=>eachW ih w B v1 v2 l1 l2 hB h1 h2 f1 f2 h
 obtain ⟨p1,c1,rfl,hc1,hm1⟩:=h1.shape
 obtain ⟨p2,c2,rfl,hc2,hm2⟩:=h2.shape
 have HE:=Lib.hid hE
 have hC:=fun W=>cmpInt l1.length l2.length W
 have hr:itemsC (cmpTm n) l1 l2 = (if l1.length = l2.length then eachC (cmpTm n) l1 l2 else cmpI l1.length l2.length):=rfl
 rw [hr]
 clear ih h1 h2 f1 f2 hE hr
 generalize eachC (cmpTm n) l1 l2 = r at *
 unfold IPostC at HE
 by_cases h:l1.length = l2.length
 ·rw [if_pos h]
  rw [cmpI_0 (by omega)] at hC
  have HH:=Lib.hid (HE.out h)
  have HC:=Lib.hid hC
  clear HE hC h
  generalize l1.length = a at *
  generalize l2.length = b at *
  go_enter Tryz.func131,Tryz.ntmps131
  go_wp2_with fail
  refine (HC.out _).mono ?_
  rintro e w' ⟨rfl,rfl⟩
  go_wp2_with fail
  refine HH.out.mono ?_
  rintro e w2 ⟨rfl,hb⟩
  go_wp2_with fail
  go_ret
  exact ⟨rfl,hb⟩
 ·rw [if_neg h]
  have hne:=cmpI_ne (a:=(l1.length:Int)) (b:=l2.length) (by omega)
  have HC:=Lib.hid hC
  clear HE hC h
  generalize cmpI (l1.length:Int) l2.length = x at *
  have q:(x != 0) = true:=by simp [hne]
  clear hne
  generalize l1.length = a at *
  generalize l2.length = b at *
  go_enter Tryz.func131,Tryz.ntmps131
  go_wp2_with fail
  refine (HC.out _).mono ?_
  rintro e w' ⟨rfl,rfl⟩
  go_wp2_with fail
  go_ret
  exact ⟨rfl,Below.refl _ _⟩
theorem lists_step {α:Type} (kd:α→Int) (c:α→α→Int) (a x:α) (l:List α) (b y:α) (m:List α):listsC kd c (a :: x :: l) (b :: y :: m) = if c a b = 0 then listsC kd c (x :: l) (y :: m) else c a b:=by
 show cellsC kd c a (x :: l) b (y :: m) = if c a b = 0 then cellsC kd c x l y m else c a b
 rw [cellsC]
theorem lists_at {α:Type} (kd:α→Int) (c:α→α→Int) (l m:List α) (k:Nat) (h1:k + 1 < l.length) (h2:k + 1 < m.length) :
 (c l[k] m[k] ≠ 0→listsC kd c (l.drop k) (m.drop k) = c l[k] m[k]) ∧
 (c l[k] m[k] = 0→listsC kd c (l.drop k) (m.drop k) = listsC kd c (l.drop (k + 1)) (m.drop (k + 1))) ∧
 (l.length = k + 2→m.length = k + 2→listsC kd c (l.drop (k + 1)) (m.drop (k + 1)) = c l[k + 1] m[k + 1]) ∧
 (l.length = k + 2→m.length ≠ k + 2→listsC kd c (l.drop (k + 1)) (m.drop (k + 1)) = cmpI (kd l[k + 1]) 9) ∧
 (l.length ≠ k + 2→m.length = k + 2→listsC kd c (l.drop (k + 1)) (m.drop (k + 1)) = cmpI 9 (kd m[k + 1])):=by
 have e1:l.drop k = l[k] :: l.drop (k + 1):=List.drop_eq_getElem_cons (by omega)
 have e2:m.drop k = m[k] :: m.drop (k + 1):=List.drop_eq_getElem_cons (by omega)
 have e3:l.drop (k + 1) = l[k + 1] :: l.drop (k + 2):=List.drop_eq_getElem_cons h1
 have e4:m.drop (k + 1) = m[k + 1] :: m.drop (k + 2):=List.drop_eq_getElem_cons h2
 refine ⟨fun h=>?_,fun h=>?_,fun ha hb=>?_,fun ha hb=>?_,fun ha hb=>?_⟩
 ·rw [e1,e2,e3,e4,lists_step,if_neg h]
 ·rw [e1,e2,e3,e4,lists_step,if_pos h]
 ·rw [e3,e4,List.drop_of_length_le (by omega),List.drop_of_length_le (by omega)];rfl
 ·have e6:m.drop (k + 2) = m[k + 2]'(by omega) :: m.drop (k + 3):=List.drop_eq_getElem_cons (by omega)
  rw [e3,e4,List.drop_of_length_le (by omega),e6];rfl
 ·have e6:l.drop (k + 2) = l[k + 2]'(by omega) :: l.drop (k + 3):=List.drop_eq_getElem_cons (by omega)
  rw [e3,e4,List.drop_of_length_le (l:=m) (by omega),e6];rfl
end Go.Proofs.YtfbggmbmgohiiaaGreat.tm
