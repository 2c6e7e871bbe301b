/- Texts of this seat, one behind the other: TmT, TmU, OrA. No condition beyond theirs. -/
import Derived.Lib.Bytealg
import Derived.Laws.Cover1
import Derived.WalkSpells
import Derived.Test.YtfbggmbmgohiiaaGreatW00
import Derived.Test.YtfbggmbmgohiiaaGreatW01
set_option linter.unusedSimpArgs false
set_option linter.unusedVariables false
set_option maxHeartbeats 1000000
set_option maxRecDepth 100000
namespace Go.Proofs.YtfbggmbmgohiiaaGreat.tm
open Go.RowKit mem
def cmpI (a b:Int):Int:=if a < b then -1 else if b < a then 1 else 0
def cmpB (a b:ByteArray):Int:=Lib.compareBytes a.data.toList b.data.toList
theorem ret1i {a b:Int} (h:a = b):Ending.returned (.int .i64 a) = .returned (.int .i64 b):=by rw [h]
theorem cb_less:∀ x y:List UInt8,Op.bytesLess x y = decide (Lib.compareBytes x y = -1)
 | [],[]=>rfl
 | [],_ :: _=>rfl
 | _ :: _,[]=>rfl
 | a :: x,b :: y=>by
  unfold Op.bytesLess Lib.compareBytes
  by_cases h:a < b
  ·simp [h]
  ·by_cases h2:b < a
   ·have:a ≠ b:=fun e=>by subst e;exact h h2
    simp [h,h2,this]
   ·have e:a = b:=by
     apply UInt8.toNat_inj.1
     have h1:¬ a.toNat < b.toNat:=h
     have h3:¬ b.toNat < a.toNat:=h2
     omega
    subst e
    simp [h,cb_less x y]
theorem cb_eq:∀ x y:List UInt8,(x == y) = decide (Lib.compareBytes x y = 0)
 | [],[]=>rfl
 | [],_ :: _=>rfl
 | _ :: _,[]=>rfl
 | a :: x,b :: y=>by
  unfold Lib.compareBytes
  have ih:=cb_eq x y
  by_cases h:a < b
  ·have:a ≠ b:=fun e=>by subst e;exact absurd h (Nat.lt_irrefl _)
   simp [h,this]
  ·by_cases h2:b < a
   ·have:a ≠ b:=fun e=>by subst e;exact h h2
    simp [h,h2,this]
   ·have e:a = b:=by
     apply UInt8.toNat_inj.1
     have h1:¬ a.toNat < b.toNat:=h
     have h3:¬ b.toNat < a.toNat:=h2
     omega
    subst e
    simp only [List.cons_beq_cons,beq_self_eq_true,Bool.true_and,h,if_false]
    exact ih
theorem cb_three:∀ x y:List UInt8,Lib.compareBytes x y = -1∨Lib.compareBytes x y = 0∨Lib.compareBytes x y = 1
 | [],[]=>.inr (.inl rfl)
 | [],_ :: _=>.inl rfl
 | _ :: _,[]=>.inr (.inr rfl)
 | a :: x,b :: y=>by
  unfold Lib.compareBytes
  by_cases h:a < b
  ·rw [if_pos h];exact .inl rfl
  ·rw [if_neg h]
   by_cases h2:b < a
   ·rw [if_pos h2];exact .inr (.inr rfl)
   ·rw [if_neg h2];exact cb_three x y
theorem cmpB_cases (a b:ByteArray):(cmpB a b = -1∧Op.bytesLess a.toList b.toList = true)∨(cmpB a b = 0∧Op.bytesLess a.toList b.toList = false∧(a.toList == b.toList) = true)∨(cmpB a b = 1∧Op.bytesLess a.toList b.toList = false∧(a.toList == b.toList) = false):=by
 unfold cmpB
 rw [ByteArray.toList_eq,ByteArray.toList_eq,cb_less,cb_eq]
 rcases cb_three a.data.toList b.data.toList with h | h | h <;> simp [h]
theorem isNaN77 (x:Int) (w:World):Calls Tryz.prog 153 #[.int .i64 x] w fun e w'=>e = .returned (.bool false)∧w = w':=by
 have q:(x != x) = false:=by simp
 go_enter Tryz.func153,Tryz.ntmps153
 go_wp2_with fail
 go_ret
 exact ⟨rfl,rfl⟩
theorem isNaN81 (x:Int) (w:World):Calls Tryz.prog 157 #[.int .i64 x] w fun e w'=>e = .returned (.bool false)∧w = w':=by
 have q:(x != x) = false:=by simp
 go_enter Tryz.func157,Tryz.ntmps157
 go_wp2_with fail
 go_ret
 exact ⟨rfl,rfl⟩
theorem isNaN86 (x:Int) (w:World):Calls Tryz.prog 160 #[.int .u8 x] w fun e w'=>e = .returned (.bool false)∧w = w':=by
 have q:(x != x) = false:=by simp
 go_enter Tryz.func160,Tryz.ntmps160
 go_wp2_with fail
 go_ret
 exact ⟨rfl,rfl⟩
theorem cmpInt (a b:Int) (w:World):Calls Tryz.prog 130 #[.int .i64 a,.int .i64 b] w fun e w'=>e = .returned (.int .i64 (cmpI a b))∧w = w':=by
 unfold cmpI
 by_cases h:a < b
 ·rw [if_pos h]
  have q1:decide (a < b) = true:=decide_eq_true h
  go_enter Tryz.func130,Tryz.ntmps130
  go_wp2_with (go_at_call 153;refine (isNaN77 _ _).mono ?_;rintro e w' ⟨rfl,rfl⟩)
  go_ret
  exact ⟨rfl,rfl⟩
 ·rw [if_neg h]
  have q1:decide (a < b) = false:=decide_eq_false h
  by_cases h2:b < a
  ·rw [if_pos h2]
   have q2:decide (b < a) = true:=decide_eq_true h2
   go_enter Tryz.func130,Tryz.ntmps130
   go_wp2_with (go_at_call 153;refine (isNaN77 _ _).mono ?_;rintro e w' ⟨rfl,rfl⟩)
   go_ret
   exact ⟨rfl,rfl⟩
  ·rw [if_neg h2]
   have q2:decide (b < a) = false:=decide_eq_false h2
   go_enter Tryz.func130,Tryz.ntmps130
   go_wp2_with (go_at_call 153;refine (isNaN77 _ _).mono ?_;rintro e w' ⟨rfl,rfl⟩)
   go_ret
   exact ⟨rfl,rfl⟩
theorem cmpInt64 (a b:Int) (w:World):Calls Tryz.prog 136 #[.int .i64 a,.int .i64 b] w fun e w'=>e = .returned (.int .i64 (cmpI a b))∧w = w':=by
 unfold cmpI
 by_cases h:a < b
 ·rw [if_pos h]
  have q1:decide (a < b) = true:=decide_eq_true h
  go_enter Tryz.func136,Tryz.ntmps136
  go_wp2_with (go_at_call 157;refine (isNaN81 _ _).mono ?_;rintro e w' ⟨rfl,rfl⟩)
  go_ret
  exact ⟨rfl,rfl⟩
 ·rw [if_neg h]
  have q1:decide (a < b) = false:=decide_eq_false h
  by_cases h2:b < a
  ·rw [if_pos h2]
   have q2:decide (b < a) = true:=decide_eq_true h2
   go_enter Tryz.func136,Tryz.ntmps136
   go_wp2_with (go_at_call 157;refine (isNaN81 _ _).mono ?_;rintro e w' ⟨rfl,rfl⟩)
   go_ret
   exact ⟨rfl,rfl⟩
  ·rw [if_neg h2]
   have q2:decide (b < a) = false:=decide_eq_false h2
   go_enter Tryz.func136,Tryz.ntmps136
   go_wp2_with (go_at_call 157;refine (isNaN81 _ _).mono ?_;rintro e w' ⟨rfl,rfl⟩)
   go_ret
   exact ⟨rfl,rfl⟩
theorem cmpByte (a b:Int) (w:World):Calls Tryz.prog 155 #[.int .u8 a,.int .u8 b] w fun e w'=>e = .returned (.int .i64 (cmpI a b))∧w = w':=by
 unfold cmpI
 by_cases h:a < b
 ·rw [if_pos h]
  have q1:decide (a < b) = true:=decide_eq_true h
  go_enter Tryz.func155,Tryz.ntmps155
  go_wp2_with (go_at_call 160;refine (isNaN86 _ _).mono ?_;rintro e w' ⟨rfl,rfl⟩)
  go_ret
  exact ⟨rfl,rfl⟩
 ·rw [if_neg h]
  have q1:decide (a < b) = false:=decide_eq_false h
  by_cases h2:b < a
  ·rw [if_pos h2]
   have q2:decide (b < a) = true:=decide_eq_true h2
   go_enter Tryz.func155,Tryz.ntmps155
   go_wp2_with (go_at_call 160;refine (isNaN86 _ _).mono ?_;rintro e w' ⟨rfl,rfl⟩)
   go_ret
   exact ⟨rfl,rfl⟩
  ·rw [if_neg h2]
   have q2:decide (b < a) = false:=decide_eq_false h2
   go_enter Tryz.func155,Tryz.ntmps155
   go_wp2_with (go_at_call 160;refine (isNaN86 _ _).mono ?_;rintro e w' ⟨rfl,rfl⟩)
   go_ret
   exact ⟨rfl,rfl⟩
theorem ints (a b:Int) (w:World):Calls Tryz.prog 108 #[.int .i64 a,.int .i64 b] w fun e w'=>e = .returned (.int .i64 (cmpI a b))∧w = w':=by
 unfold cmpI
 by_cases h:a < b
 ·rw [if_pos h]
  have q1:decide (a < b) = true:=decide_eq_true h
  go_enter Tryz.func108,Tryz.ntmps108
  go_wp2_with fail
  go_ret
  exact ⟨rfl,rfl⟩
 ·rw [if_neg h]
  have q1:decide (a < b) = false:=decide_eq_false h
  by_cases h2:b < a
  ·rw [if_pos h2]
   have q2:decide (b < a) = true:=decide_eq_true h2
   go_enter Tryz.func108,Tryz.ntmps108
   go_wp2_with fail
   go_ret
   exact ⟨rfl,rfl⟩
  ·rw [if_neg h2]
   have q2:decide (b < a) = false:=decide_eq_false h2
   go_enter Tryz.func108,Tryz.ntmps108
   go_wp2_with fail
   go_ret
   exact ⟨rfl,rfl⟩
theorem texts (a b:ByteArray) (w:World):Calls Tryz.prog 109 #[.string a,.string b] w fun e w'=>e = .returned (.int .i64 (cmpB a b))∧w = w':=by
 rcases cmpB_cases a b with ⟨h,q1⟩ | ⟨h,q1,q2⟩ | ⟨h,q1,q2⟩
 all_goals
  rw [h]
  clear h
  go_enter Tryz.func109,Tryz.ntmps109
  go_wp2_with fail
  go_ret
  exact ⟨rfl,rfl⟩
theorem cmpString80 (a b:ByteArray) (w:World):Calls Tryz.prog 156 #[.string a,.string b] w fun e w'=>e = .returned (.int .i64 (cmpB a b))∧w = w':=by
 go_enter Tryz.func156,Tryz.ntmps156
 go_wp2_with fail
 rw [run_callFunc_extern Tryz.func161 (by kernel_rfl) (by kernel_rfl) (by kernel_rfl) (e:=Extern.BytealgCompare.compare) (by kernel_rfl),Lib.run_compareString]
 simp only [Result.andThen]
 rw [Oper.upon_value]
 go_wp2_with fail
 go_ret
 exact ⟨rfl,rfl⟩
theorem cmpString (a b:ByteArray) (w:World):Calls Tryz.prog 135 #[.string a,.string b] w fun e w'=>e = .returned (.int .i64 (cmpB a b))∧w = w':=by
 go_enter Tryz.func135,Tryz.ntmps135
 go_wp2_with (go_at_call 156;refine (cmpString80 _ _ _).mono ?_;rintro e w' ⟨rfl,rfl⟩)
 go_ret
 exact ⟨rfl,rfl⟩
def firstL:List Int→Int
 | []=>0
 | x :: l=>if x = 0 then firstL l else x
theorem first_at:∀ (l:List Int) (k:Nat) (h:k < l.length),(∀ j,(hj:j < l.length)→j < k→l[j] = 0)→l[k] ≠ 0→firstL l = l[k]
 | x :: l,0,h,_,hn=>by
  unfold firstL
  rw [if_neg (by simpa using hn)];rfl
 | x :: l,k + 1,h,ha,hn=>by
  unfold firstL
  have h0:x = 0:=ha 0 (by simp) (by omega)
  rw [if_pos h0,first_at l k (by simpa using h) (fun j hj hk=>ha (j + 1) (by simpa using hj) (by omega)) (by simpa using hn)];rfl
theorem first_zero:∀ (l:List Int),(∀ j,(hj:j < l.length)→l[j] = 0)→firstL l = 0
 | [],_=>rfl
 | x :: l,h=>by
  unfold firstL
  have h0:x = 0:=h 0 (by simp)
  rw [if_pos h0,first_zero l (fun j hj=>h (j + 1) (by simpa using hj))]
theorem firstOr (w:World) (g:Nat) (l:List Int) (c:Nat) (hc:l.length ≤ 1000) (hcell:∀ j,(h:j < l.length)→w.cell? ⟨g,j,none⟩ = some (.int .i64 l[j])) :
 Calls Tryz.prog 134 #[.slice (some ⟨g,0,none⟩) l.length c] w fun e w'=>e = .returned (.int .i64 (firstL l))∧w = w':=by
 have HC:=Lib.hid hcell
 clear hcell
 go_enter Tryz.func134,Tryz.ntmps134
 go_wp2_with fail
 go_loop [8] (fun i=>∃ k:Nat,i = .int .i64 k∧k ≤ l.length∧Hid (∀ j,(h:j < l.length)→j < k→l[j] = 0)) (fun i=>l.length - (intOf i).toNat)
 case atStart=>exact ⟨0,rfl,by omega,Lib.hid (fun j h hk=>by omega)⟩
 case round =>
  obtain ⟨k,rfl,hk,HA⟩:=hrel
  by_cases hlt:k < l.length
  ·have hcl:=HC.out k hlt
   have HAt:=Lib.hid (first_at l k hlt HA.out)
   have HA2:Hid (l[k] = 0→∀ j,(h:j < l.length)→j < k + 1→l[j] = 0):=Lib.hid (fun e j h hj=>by
    by_cases e2:j = k
    ·subst e2;exact e
    ·exact HA.out j h (by omega))
   generalize l[k] = x at *
   by_cases hx:x = 0
   ·subst hx
    have H2:=Lib.hid (HA2.out rfl)
    clear HAt HA2
    go_wp2_with fail
    go_round
    case rel=>exact ⟨k + 1,by go_num,by omega,H2⟩
    case measure=>simp [intOf];omega
   ·have q:(x != 0) = true:=by simp [hx]
    have HF:=Lib.hid (HAt.out hx)
    clear HAt HA2 hx
    go_wp2_with fail
    go_ret
    exact ⟨ret1i HF.out.symm,rfl⟩
  ·have HF:=Lib.hid (first_zero l (fun j hj=>HA.out j hj (by omega)))
   go_wp2_with fail
   go_ret
   exact ⟨ret1i HF.out.symm,rfl⟩
theorem firstRef (w:World) (g:Nat) (l:List Int) (c:Nat) (hc:l.length ≤ 1000) (hcell:∀ j,(h:j < l.length)→w.cell? ⟨g,j,none⟩ = some (.int .i64 l[j])) :
 Calls Tryz.prog 110 #[.slice (some ⟨g,0,none⟩) l.length c] w fun e w'=>e = .returned (.int .i64 (firstL l))∧w = w':=by
 have HC:=Lib.hid hcell
 clear hcell
 go_enter Tryz.func110,Tryz.ntmps110
 go_wp2_with fail
 go_loop [3] (fun i=>∃ k:Nat,i = .int .i64 k∧k ≤ l.length∧Hid (∀ j,(h:j < l.length)→j < k→l[j] = 0)) (fun i=>l.length - (intOf i).toNat)
 case atStart=>exact ⟨0,rfl,by omega,Lib.hid (fun j h hk=>by omega)⟩
 case round =>
  obtain ⟨k,rfl,hk,HA⟩:=hrel
  by_cases hlt:k < l.length
  ·have hcl:=HC.out k hlt
   have HAt:=Lib.hid (first_at l k hlt HA.out)
   have HA2:Hid (l[k] = 0→∀ j,(h:j < l.length)→j < k + 1→l[j] = 0):=Lib.hid (fun e j h hj=>by
    by_cases e2:j = k
    ·subst e2;exact e
    ·exact HA.out j h (by omega))
   generalize l[k] = x at *
   by_cases hx:x = 0
   ·subst hx
    have H2:=Lib.hid (HA2.out rfl)
    clear HAt HA2
    go_wp2_with fail
    go_round
    case rel=>exact ⟨k + 1,by go_num,by omega,H2⟩
    case measure=>simp [intOf];omega
   ·have q:(x != 0) = true:=by simp [hx]
    have HF:=Lib.hid (HAt.out hx)
    clear HAt HA2 hx
    go_wp2_with fail
    go_ret
    exact ⟨ret1i HF.out.symm,rfl⟩
  ·have HF:=Lib.hid (first_zero l (fun j hj=>HA.out j hj (by omega)))
   go_wp2_with fail
   go_ret
   exact ⟨ret1i HF.out.symm,rfl⟩
def eachC {α:Type} (c:α→α→Int):List α→List α→Int
 | a :: l,b :: m=>if c a b = 0 then eachC c l m else c a b
 | _,_=>0
def itemsC {α:Type} (c:α→α→Int) (l m:List α):Int:=if l.length = m.length then eachC c l m else cmpI l.length m.length
def cellsC {α:Type} (kd:α→Int) (c:α→α→Int):α→List α→α→List α→Int
 | a,[],b,[]=>c a b
 | a,[],_,_ :: _=>cmpI (kd a) 9
 | _,_ :: _,b,[]=>cmpI 9 (kd b)
 | a,x :: l,b,y :: m=>if c a b = 0 then cellsC kd c x l y m else c a b
def listsC {α:Type} (kd:α→Int) (c:α→α→Int):List α→List α→Int
 | a :: l,b :: m=>cellsC kd c a l b m
 | _,_=>0
end Go.Proofs.YtfbggmbmgohiiaaGreat.tm
namespace Go.Proofs.YtfbggmbmgohiiaaGreat.tm
structure TP {α:Type} (S:α→Prop) (c:α→α→Int):Prop where
 range:∀ a b,c a b = -1∨c a b = 0∨c a b = 1
 anti:∀ a b,c b a = - c a b
 trans:∀ a b d,S a→S b→S d→c a b ≤ 0→c b d ≤ 0→c a d ≤ 0
theorem TP.refl {α:Type} {S:α→Prop} {c:α→α→Int} (h:TP S c) (a:α):c a a = 0:=by have:=h.anti a a;omega
theorem TP.zero {α:Type} {S:α→Prop} {c:α→α→Int} (h:TP S c) {a b d:α} (ha:S a) (hb:S b) (hd:S d) (h1:c a b ≤ 0) (h2:c b d ≤ 0) (h3:c a d = 0):c a b = 0∧c b d = 0:=by
 have e:=h.anti a d
 have h4:=h.trans b d a hb hd ha h2 (by omega)
 have h5:=h.trans d a b hd ha hb (by omega) h1
 have e1:=h.anti a b
 have e2:=h.anti b d
 omega
theorem TP.mono {α:Type} {S S':α→Prop} {c:α→α→Int} (h:TP S c) (hs:∀ a,S' a→S a):TP S' c:=⟨h.range,h.anti,fun a b d x y z=>h.trans a b d (hs _ x) (hs _ y) (hs _ z)⟩
theorem TP.comap {α β:Type} {S:α→Prop} {c:α→α→Int} (h:TP S c) (f:β→α):TP (fun x=>S (f x)) (fun x y=>c (f x) (f y)):=⟨fun a b=>h.range _ _,fun a b=>h.anti _ _,fun a b d x y z=>h.trans _ _ _ x y z⟩
def thenC {α:Type} (c1 c2:α→α→Int) (a b:α):Int:=if c1 a b = 0 then c2 a b else c1 a b
theorem TP.then {α:Type} {S:α→Prop} {c1 c2:α→α→Int} (h1:TP S c1) (h2:TP S c2):TP S (thenC c1 c2):=by
 refine ⟨fun a b=>?_,fun a b=>?_,fun a b d ha hb hd x y=>?_⟩
 ·unfold thenC;split
  ·exact h2.range a b
  ·exact h1.range a b
 ·have e1:=h1.anti a b
  have e2:=h2.anti a b
  unfold thenC;split <;> split <;> omega
 ·have k1:c1 a b ≤ 0:=by unfold thenC at x;split at x <;> omega
  have k2:c1 b d ≤ 0:=by unfold thenC at y;split at y <;> omega
  have k3:=h1.trans a b d ha hb hd k1 k2
  unfold thenC
  split
  next e =>
   have ⟨e1,e2⟩:=h1.zero ha hb hd k1 k2 e
   unfold thenC at x y
   rw [if_pos e1] at x
   rw [if_pos e2] at y
   exact h2.trans a b d ha hb hd x y
  next=>exact k3
theorem cmpI_range (a b:Int):cmpI a b = -1∨cmpI a b = 0∨cmpI a b = 1:=by unfold cmpI;split <;> (try split) <;> simp
theorem cmpI_anti (a b:Int):cmpI b a = - cmpI a b:=by
 unfold cmpI
 by_cases h:a < b
 ·rw [if_pos h,if_neg (by omega),if_pos h];rfl
 ·by_cases h2:b < a
  ·rw [if_pos h2,if_neg h,if_pos h2]
  ·rw [if_neg h,if_neg h2,if_neg h2,if_neg h];rfl
theorem cmpI_le {a b:Int}:cmpI a b ≤ 0↔a ≤ b:=by unfold cmpI;split <;> (try split) <;> omega
theorem cmpI_lt {a b:Int}:cmpI a b < 0↔a < b:=by unfold cmpI;split <;> (try split) <;> omega
theorem cmpI_z {a b:Int}:cmpI a b = 0↔a = b:=by unfold cmpI;split <;> (try split) <;> omega
theorem tpI:TP (fun _=>True) cmpI:=⟨cmpI_range,cmpI_anti,fun a b d _ _ _ x y=>by rw [cmpI_le] at *;omega⟩
def lexG {α:Type} (c:α→α→Int):List α→List α→Int
 | [],[]=>0
 | [],_ :: _=>-1
 | _ :: _,[]=>1
 | a :: l,b :: m=>if c a b = 0 then lexG c l m else c a b
theorem lexG_range {α:Type} {c:α→α→Int} (h:∀ a b,c a b = -1∨c a b = 0∨c a b = 1):∀ l m,lexG c l m = -1∨lexG c l m = 0∨lexG c l m = 1
 | [],[]=>.inr (.inl rfl)
 | [],_ :: _=>.inl rfl
 | _ :: _,[]=>.inr (.inr rfl)
 | a :: l,b :: m=>by
  unfold lexG;split
  ·exact lexG_range h l m
  ·exact h a b
theorem lexG_anti {α:Type} {c:α→α→Int} (h:∀ a b,c b a = - c a b):∀ l m,lexG c m l = - lexG c l m
 | [],[]=>rfl
 | [],_ :: _=>rfl
 | _ :: _,[]=>rfl
 | a :: l,b :: m=>by
  have e:=h a b
  have ih:=lexG_anti h l m
  unfold lexG;split <;> split <;> omega
theorem TP.lex {α:Type} {S:α→Prop} {c:α→α→Int} (h:TP S c):TP (fun l=>∀ x ∈ l,S x) (lexG c):=by
 refine ⟨lexG_range h.range,lexG_anti h.anti,?_⟩
 intro a
 induction a with
 | nil =>
  intro b d _ _ _ _ _
  cases d <;> simp [lexG]
 | cons x l ih =>
  intro b d ha hb hd h1 h2
  cases b with
  | nil=>simp [lexG] at h1
  | cons y m =>
   cases d with
   | nil=>simp [lexG] at h2
   | cons z k =>
    have hx:=ha x (by simp)
    have hy:=hb y (by simp)
    have hz:=hd z (by simp)
    unfold lexG at h1 h2 ⊢
    have k1:c x y ≤ 0:=by split at h1 <;> omega
    have k2:c y z ≤ 0:=by split at h2 <;> omega
    split
    next e =>
     have ⟨e1,e2⟩:=h.zero hx hy hz k1 k2 e
     rw [if_pos e1] at h1
     rw [if_pos e2] at h2
     exact ih m k (fun u hu=>ha u (by simp [hu])) (fun u hu=>hb u (by simp [hu])) (fun u hu=>hd u (by simp [hu])) h1 h2
    next=>exact h.trans _ _ _ hx hy hz k1 k2
theorem lexG_eq {α:Type} {c:α→α→Int}:∀ (l m:List α),(∀ x ∈ l,∀ y ∈ m,c x y = 0→x = y)→lexG c l m = 0→l = m
 | [],[],_,_=>rfl
 | [],_ :: _,_,h=>by simp [lexG] at h
 | _ :: _,[],_,h=>by simp [lexG] at h
 | a :: l,b :: m,hz,h=>by
  unfold lexG at h
  split at h
  next e =>
   rw [hz a (by simp) b (by simp) e,lexG_eq l m (fun x hx y hy=>hz x (by simp [hx]) y (by simp [hy])) h]
  next e=>exact absurd h e
theorem each_lex {α:Type} (c:α→α→Int):∀ (l m:List α),l.length = m.length→eachC c l m = lexG c l m
 | [],[],_=>rfl
 | a :: l,b :: m,h=>by
  unfold eachC lexG
  rw [each_lex c l m (by simpa using h)]
theorem items_then {α:Type} (c:α→α→Int) (l m:List α):itemsC c l m = thenC (fun (l m:List α)=>cmpI l.length m.length) (lexG c) l m:=by
 unfold itemsC thenC
 by_cases h:l.length = m.length
 ·rw [if_pos h,if_pos (cmpI_z.2 (by omega)),each_lex c l m h]
 ·rw [if_neg h,if_neg (fun e=>h (by have:=cmpI_z.1 e;omega))]
theorem TP.items {α:Type} {S:α→Prop} {c:α→α→Int} (h:TP S c):TP (fun l=>∀ x ∈ l,S x) (itemsC c):=by
 have e:itemsC c = thenC (fun (l m:List α)=>cmpI l.length m.length) (lexG c):=by funext l m;exact items_then c l m
 rw [e]
 exact TP.then ((TP.comap tpI (fun l:List α=>(l.length:Int))).mono (fun _ _=>trivial)) h.lex
theorem items_eq {α:Type} {c:α→α→Int} (l m:List α) (hz:∀ x ∈ l,∀ y ∈ m,c x y = 0→x = y) (h:itemsC c l m = 0):l = m:=by
 rw [items_then] at h
 unfold thenC at h
 split at h
 ·exact lexG_eq l m hz h
 ·contradiction
def cmpU (a b:UInt8):Int:=cmpI a.toNat b.toNat
theorem tpU:TP (fun _=>True) cmpU:=TP.comap tpI (fun a:UInt8=>(a.toNat:Int))
theorem cb_lex:∀ x y:List UInt8,Lib.compareBytes x y = lexG cmpU x y
 | [],[]=>rfl
 | [],_ :: _=>rfl
 | _ :: _,[]=>rfl
 | a :: x,b :: y=>by
  unfold Lib.compareBytes lexG
  by_cases h:a < b
  ·have h':a.toNat < b.toNat:=h
   have e:cmpU a b = -1:=by unfold cmpU cmpI;rw [if_pos (by omega)]
   rw [if_pos h,e];rfl
  ·have h':¬ a.toNat < b.toNat:=h
   by_cases h2:b < a
   ·have h2':b.toNat < a.toNat:=h2
    have e:cmpU a b = 1:=by unfold cmpU cmpI;rw [if_neg (by omega),if_pos (by omega)]
    rw [if_neg h,if_pos h2,e];rfl
   ·have h2':¬ b.toNat < a.toNat:=h2
    have e:cmpU a b = 0:=by unfold cmpU cmpI;rw [if_neg (by omega),if_neg (by omega)]
    rw [if_neg h,if_neg h2,e,cb_lex x y];rfl
theorem tpB:TP (fun _=>True) cmpB:=by
 have e:cmpB = fun x y=>lexG cmpU x.data.toList y.data.toList:=by funext x y;exact cb_lex _ _
 rw [e]
 exact (TP.comap tpU.lex (fun x:ByteArray=>x.data.toList)).mono (fun _ _ _ _=>trivial)
theorem cmpU_eq {a b:UInt8} (h:cmpU a b = 0):a = b:=UInt8.toNat_inj.1 (by have:=cmpI_z.1 h;omega)
theorem cb_eq0 {x y:List UInt8} (h:Lib.compareBytes x y = 0):x = y:=by
 rw [cb_lex] at h
 exact lexG_eq x y (fun _ _ _ _ h=>cmpU_eq h) h
theorem cmpB_eq {a b:ByteArray} (h:cmpB a b = 0):a = b:=ByteArray.ext (Array.ext' (cb_eq0 h))
theorem cells_range {α:Type} {kd:α→Int} {c:α→α→Int} (h:∀ a b,c a b = -1∨c a b = 0∨c a b = 1):∀ a l b m,cellsC kd c a l b m = -1∨cellsC kd c a l b m = 0∨cellsC kd c a l b m = 1
 | a,[],b,[]=>h a b
 | a,[],_,_ :: _=>cmpI_range _ _
 | _,_ :: _,b,[]=>cmpI_range _ _
 | a,x :: l,b,y :: m=>by
  unfold cellsC;split
  ·exact cells_range h x l y m
  ·exact h a b
theorem cells_anti {α:Type} {kd:α→Int} {c:α→α→Int} (h:∀ a b,c b a = - c a b):∀ a l b m,cellsC kd c b m a l = - cellsC kd c a l b m
 | a,[],b,[]=>h a b
 | a,[],_,_ :: _=>cmpI_anti _ _
 | _,_ :: _,b,[]=>cmpI_anti _ _
 | a,x :: l,b,y :: m=>by
  have e:=h a b
  have ih:=cells_anti (kd:=kd) h x l y m
  unfold cellsC;split <;> split <;> omega
def GoodC {α:Type} (S:α→Prop) (kd:α→Int):α→List α→Prop
 | a,[]=>S a∧kd a ≠ 9
 | a,x :: l=>S a∧GoodC S kd x l
theorem GoodC.head {α:Type} {S:α→Prop} {kd:α→Int} {a:α} {l:List α} (h:GoodC S kd a l):S a:=by cases l <;> exact h.1
theorem cells_trans {α:Type} {S:α→Prop} {kd:α→Int} {c:α→α→Int} (h:TP S c) (hk:∀ a b,kd a ≠ kd b→c a b = cmpI (kd a) (kd b)) :
 ∀ l a m b k d,GoodC S kd a l→GoodC S kd b m→GoodC S kd d k→cellsC kd c a l b m ≤ 0→cellsC kd c b m d k ≤ 0→cellsC kd c a l d k ≤ 0:=by
 have hle:∀ a b,c a b ≤ 0→kd a ≤ kd b:=fun a b x=>by
  by_cases e:kd a = kd b
  ·omega
  ·rw [hk a b e,cmpI_le] at x;exact x
 have hlt:∀ a b,kd a < kd b→c a b ≤ 0:=fun a b x=>by rw [hk a b (by omega),cmpI_le];omega
 intro l
 induction l with
 | nil =>
  intro a m b k d ha hb hd x y
  cases m with
  | nil =>
   cases k with
   | nil=>exact h.trans _ _ _ ha.1 hb.1 hd.1 x y
   | cons z k =>
    have x':c a b ≤ 0:=x
    have y':cmpI (kd b) 9 ≤ 0:=y
    show cmpI (kd a) 9 ≤ 0
    have:=hle _ _ x'
    rw [cmpI_le] at *;omega
  | cons u m =>
   have x':cmpI (kd a) 9 ≤ 0:=x
   cases k with
   | nil =>
    have y':cmpI 9 (kd d) ≤ 0:=y
    have:=ha.2
    rw [cmpI_le] at x' y'
    exact hlt a d (by omega)
   | cons z k=>exact x
 | cons u l ih =>
  intro a m b k d ha hb hd x y
  cases m with
  | nil =>
   have x':cmpI 9 (kd b) ≤ 0:=x
   have:=hb.2
   cases k with
   | nil =>
    have y':c b d ≤ 0:=y
    show cmpI 9 (kd d) ≤ 0
    have:=hle _ _ y'
    rw [cmpI_le] at *;omega
   | cons z k =>
    have y':cmpI (kd b) 9 ≤ 0:=y
    rw [cmpI_le] at x' y'
    omega
  | cons v m =>
   cases k with
   | nil=>exact y
   | cons z k =>
    unfold cellsC at x y ⊢
    have k1:c a b ≤ 0:=by split at x <;> omega
    have k2:c b d ≤ 0:=by split at y <;> omega
    split
    next e =>
     have ⟨e1,e2⟩:=h.zero ha.head hb.head hd.head k1 k2 e
     rw [if_pos e1] at x
     rw [if_pos e2] at y
     exact ih u m v k z ha.2 hb.2 hd.2 x y
    next=>exact h.trans _ _ _ ha.head hb.head hd.head k1 k2
theorem cells_eq {α:Type} {S:α→Prop} {kd:α→Int} {c:α→α→Int} (hz:∀ a b,S a→S b→c a b = 0→a = b):∀ l a m b,GoodC S kd a l→GoodC S kd b m→cellsC kd c a l b m = 0→a = b∧l = m
 | [],a,[],b,ha,hb,h=>⟨hz a b ha.1 hb.1 h,rfl⟩
 | [],a,_ :: _,b,ha,hb,h=>absurd (cmpI_z.1 h) ha.2
 | _ :: _,a,[],b,ha,hb,h=>absurd (cmpI_z.1 h).symm hb.2
 | u :: l,a,v :: m,b,ha,hb,h=>by
  unfold cellsC at h
  split at h
  next e =>
   obtain ⟨e1,e2⟩:=cells_eq hz l u m v ha.2 hb.2 h
   exact ⟨hz a b ha.1 hb.1 e,by rw [e1,e2]⟩
  next e=>exact absurd h e
def GoodL {α:Type} (S:α→Prop) (kd:α→Int):List α→Prop
 | []=>True
 | a :: l=>GoodC S kd a l
theorem TP.lists {α:Type} {S:α→Prop} {kd:α→Int} {c:α→α→Int} (h:TP S c) (hk:∀ a b,kd a ≠ kd b→c a b = cmpI (kd a) (kd b)):TP (fun l=>l ≠ []∧GoodL S kd l) (listsC kd c):=by
 refine ⟨fun l m=>?_,fun l m=>?_,fun l m k ha hb hd x y=>?_⟩
 ·cases l with
  | nil=>exact .inr (.inl rfl)
  | cons a l=>cases m with
   | nil=>exact .inr (.inl rfl)
   | cons b m=>exact cells_range h.range a l b m
 ·cases l with
  | nil=>cases m <;> rfl
  | cons a l=>cases m with
   | nil=>rfl
   | cons b m=>exact cells_anti h.anti a l b m
 ·cases l with
  | nil=>exact absurd rfl ha.1
  | cons a l=>cases m with
   | nil=>exact absurd rfl hb.1
   | cons b m=>cases k with
    | nil=>exact absurd rfl hd.1
    | cons d k=>exact cells_trans h hk l a m b k d ha.2 hb.2 hd.2 x y
end Go.Proofs.YtfbggmbmgohiiaaGreat.tm
