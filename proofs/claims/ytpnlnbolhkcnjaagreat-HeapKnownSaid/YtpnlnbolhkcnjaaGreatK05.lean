/- WordsB,WordsC,CoE. No condition beyond theirs. -/
import Derived.Test.YtpnlnbolhkcnjaaGreatK04
import Derived.Test.YtpnlnbolhkcnjaaGreatK00
import Derived.Deep.QuietTactic
import Derived.BigQuiet
import Derived.WalkSpells
import Derived.StillTailTactics
import Derived.Outline
import Derived.IntWalk
import Derived.OwnWalk
import Derived.Laws.OwnMore
set_option linter.unusedSimpArgs false
set_option linter.unusedVariables false
set_option maxHeartbeats 1000000
set_option maxRecDepth 100000
namespace Go.Proofs.YtpnlnbolhkcnjaaGreat
namespace words
open Go.RowKit
theorem ret1 {k:IntKind} {a b:Int} (h:a = b):Ending.returned (.int k a) = .returned (.int k b):=by rw [h]
theorem ret1b {a b:Bool} (h:a = b):Ending.returned (.bool a) = .returned (.bool b):=by rw [h]
theorem ret3 {b1 b2 c1 c2:Bool} {x1 x2:Int} (h1:b1 = b2) (h2:x1 = x2) (h3:c1 = c2) :
 Ending.returned (.tuple #[.bool b1,.int .i64 x1,.bool c1]) = .returned (.tuple #[.bool b2,.int .i64 x2,.bool c2]):=by rw [h1,h2,h3]
theorem ret3i {c1 c2:Bool} {x1 x2 y1 y2:Int} (h1:y1 = y2) (h2:x1 = x2) (h3:c1 = c2) :
 Ending.returned (.tuple #[.int .i64 y1,.int .i64 x1,.bool c1]) = .returned (.tuple #[.int .i64 y2,.int .i64 x2,.bool c2]):=by rw [h1,h2,h3]
theorem ret2i {b1 b2:Bool} {x1 x2:Int} (h1:x1 = x2) (h2:b1 = b2) :
 Ending.returned (.tuple #[.int .i64 x1,.bool b1]) = .returned (.tuple #[.int .i64 x2,.bool b2]):=by rw [h1,h2]
section
variable (x:Int) (h0:0 ≤ x) (h1:x ≤ 18446744073709551615) (w:World)
include h0 h1
theorem Tag:Calls Tryz.prog 145 #[.int .u64 x] w fun e w'=>e = .returned (.int .i64 (x % 4))∧w = w':=by
 have H3:=Lib.hid (and3 x h0 h1);go_enter Tryz.func145,Tryz.ntmps145;go_wp2
 go_ret;exact ⟨ret1 (by rw [H3.out];first | done | (rw [IntKind.wrap_i64];omega) | (unfold wrap64;omega)),rfl⟩
theorem RTag:Calls Tryz.prog 20 #[.int .u64 x] w fun e w'=>e = .returned (.int .i64 (x % 4))∧w = w':=by
 go_enter Tryz.func20,Tryz.ntmps20;go_wp2
 go_ret;exact ⟨rfl,rfl⟩
theorem Low:Calls Tryz.prog 170 #[.int .u64 x] w fun e w'=>e = .returned (.int .i64 (x % 16))∧w = w':=by
 have H3:=Lib.hid (and15 x h0 h1);go_enter Tryz.func170,Tryz.ntmps170;go_wp2
 go_ret;exact ⟨ret1 (by rw [H3.out];first | done | (rw [IntKind.wrap_i64];omega) | (unfold wrap64;omega)),rfl⟩
theorem SmallOf:Calls Tryz.prog 105 #[.int .u64 x] w fun e w'=>e = .returned (.tuple #[.int .i64 (soN x),.bool (soOk x)])∧w = w':=by
 by_cases a:x % 16 = 3
 ·have A:=Lib.hid a;have bb:(x % 16 != 3) = false:=by simp [a]
  clear a;go_enter Tryz.func105,Tryz.ntmps105;go_wp2_with (go_at_call 170;refine (Low _ (by omega) (by omega) _).mono ?_;rintro e w' ⟨rfl,rfl⟩)
  go_ret2
  have a:=A.out;refine ⟨ret2i ?_ (by simp [soOk,a]),rfl⟩;unfold soN soOk wrap64;rw [if_pos (by simp [a])]
  split <;> omega
 ·have bb:(x % 16 != 3) = true:=by simp [a]
  go_enter Tryz.func105,Tryz.ntmps105;go_wp2_with (go_at_call 170;refine (Low _ (by omega) (by omega) _).mono ?_;rintro e w' ⟨rfl,rfl⟩)
  go_ret2
  exact ⟨ret2i (by simp [soN,soOk,a]) (by simp [soOk,a]),rfl⟩
theorem AtomOf:Calls Tryz.prog 106 #[.int .u64 x] w fun e w'=>e = .returned (.tuple #[.int .i64 (aoN x),.bool (aoOk x)])∧w = w':=by
 by_cases a:x % 16 = 7
 ·have A:=Lib.hid a;have bb:(x % 16 != 7) = false:=by simp [a]
  clear a;by_cases c:2147483647 < x / 16
  all_goals
   go_enter Tryz.func106,Tryz.ntmps106;go_wp2_with (go_at_call 170;refine (Low _ (by omega) (by omega) _).mono ?_;rintro e w' ⟨rfl,rfl⟩)
   go_ret2
   have a:=A.out
  ·exact ⟨ret2i (by unfold aoN aoOk;rw [if_neg (by simp;omega)]) (by unfold aoOk;simp;omega),rfl⟩
  ·exact ⟨ret2i (by unfold aoN aoOk;rw [if_pos (by simp;omega)]) (by unfold aoOk;simp;omega),rfl⟩
 ·have bb:(x % 16 != 7) = true:=by simp [a]
  go_enter Tryz.func106,Tryz.ntmps106;go_wp2_with (go_at_call 170;refine (Low _ (by omega) (by omega) _).mono ?_;rintro e w' ⟨rfl,rfl⟩)
  go_ret2
  exact ⟨ret2i (by simp [aoN,aoOk,a]) (by simp [aoOk,a]),rfl⟩
theorem Pointer:Calls Tryz.prog 131 #[.int .u64 x] w fun e w'=>e = .returned (.tuple #[.bool (pOld x),.int .i64 (pIx x),.bool (pOk x)])∧w = w':=by
 have H4:=Lib.hid (and4 x h0 h1)
 by_cases a:x % 4 = 1∨x % 4 = 2
 ·by_cases c:x / 8 ≤ 2147483647
  ·have A:=Lib.hid a;have B:((x % 4 != 1) = true∧(x % 4 != 2) = false)∨(x % 4 != 1) = false:=by rcases a with a | a <;> simp [a]
   clear a;rcases B with ⟨b1,b2⟩ | b1
   all_goals
    go_enter Tryz.func131,Tryz.ntmps131;go_wp2_with (go_at_call 145;refine (Tag _ (by omega) (by omega) _).mono ?_;rintro e w' ⟨rfl,rfl⟩)
    go_ret3
    have a:=A.out;have hp:pOk x = true:=by unfold pOk;simp;omega
    refine ⟨ret3 ?_ (by unfold pIx;rw [if_pos hp]) hp.symm,rfl⟩;rw [H4.out];unfold pOld;rw [hp];have:x / 4 % 2 = 0∨x / 4 % 2 = 1:=by omega
    rcases this with h | h <;> simp [h]
  ·have A:=Lib.hid a;have B:((x % 4 != 1) = true∧(x % 4 != 2) = false)∨(x % 4 != 1) = false:=by rcases a with a | a <;> simp [a]
   clear a;rcases B with ⟨b1,b2⟩ | b1
   all_goals
    go_enter Tryz.func131,Tryz.ntmps131;go_wp2_with (go_at_call 145;refine (Tag _ (by omega) (by omega) _).mono ?_;rintro e w' ⟨rfl,rfl⟩)
    go_ret3
    have hp:pOk x = false:=by unfold pOk;simp;omega
    exact ⟨ret3 (by unfold pOld;rw [hp];rfl) (by unfold pIx;rw [hp];rfl) hp.symm,rfl⟩
 ·have b1:(x % 4 != 1) = true:=by simp;omega
  have b2:(x % 4 != 2) = true:=by simp;omega
  have A:=Lib.hid a;clear a;go_enter Tryz.func131,Tryz.ntmps131;go_wp2_with (go_at_call 145;refine (Tag _ (by omega) (by omega) _).mono ?_;rintro e w' ⟨rfl,rfl⟩)
  go_ret3
  have a:=A.out;have hp:pOk x = false:=by unfold pOk;simp;omega
  exact ⟨ret3 (by unfold pOld;rw [hp];rfl) (by unfold pIx;rw [hp];rfl) hp.symm,rfl⟩
theorem RPointer:Calls Tryz.prog 27 #[.int .u64 x] w fun e w'=>e = .returned (.tuple #[.bool (pOld x),.int .i64 (pIx x),.bool (pOk x)])∧w = w':=by
 by_cases a:x % 4 = 1∨x % 4 = 2
 ·by_cases c:x / 8 < 2147483648
  ·have A:=Lib.hid a;have B:((x % 4 != 1) = true∧(x % 4 != 2) = false)∨(x % 4 != 1) = false:=by rcases a with a | a <;> simp [a]
   clear a;rcases B with ⟨b1,b2⟩ | b1
   all_goals
    go_enter Tryz.func27,Tryz.ntmps27;go_wp2
    go_ret3
    have a:=A.out;have hp:pOk x = true:=by unfold pOk;simp;omega
    refine ⟨ret3 ?_ (by unfold pIx;rw [if_pos hp]) hp.symm,rfl⟩;unfold pOld;rw [hp];have:x / 4 % 2 = 0∨x / 4 % 2 = 1:=by omega
    rcases this with h | h <;> simp [h]
  ·have A:=Lib.hid a;have B:((x % 4 != 1) = true∧(x % 4 != 2) = false)∨(x % 4 != 1) = false:=by rcases a with a | a <;> simp [a]
   clear a;rcases B with ⟨b1,b2⟩ | b1
   all_goals
    go_enter Tryz.func27,Tryz.ntmps27;go_wp2
    go_ret3
    have hp:pOk x = false:=by unfold pOk;simp;omega
    exact ⟨ret3 (by unfold pOld;rw [hp];rfl) (by unfold pIx;rw [hp];rfl) hp.symm,rfl⟩
 ·have b1:(x % 4 != 1) = true:=by simp;omega
  have b2:(x % 4 != 2) = true:=by simp;omega
  have A:=Lib.hid a;clear a;go_enter Tryz.func27,Tryz.ntmps27;go_wp2
  go_ret3
  have a:=A.out;have hp:pOk x = false:=by unfold pOk;simp;omega
  exact ⟨ret3 (by unfold pOld;rw [hp];rfl) (by unfold pIx;rw [hp];rfl) hp.symm,rfl⟩
theorem HeaderOf:Calls Tryz.prog 184 #[.int .u64 x] w fun e w'=>e = .returned (.tuple #[.int .i64 (hoK x),.int .i64 (hoN x),.bool (hoOk x)])∧w = w':=by
 have H4:bits .and .u64 (x / 4) 15 = x / 4 % 16:=and15 (x / 4) (by omega) (by omega);have G:∀ b:Bool,(decide (x % 4 = 0) = b)→hoOk x = (b && decide (1 ≤ x / 4 % 16) && decide (x / 4 % 16 ≤ 8) && decide (x / 64 ≤ 65535)):=by
  intro b hb;rw [← hb];unfold hoOk;rw [Bool.eq_iff_iff];simp [and_assoc]
 have HG:=Lib.hid G;clear G;have hb1:0 ≤ x / 4 % 16:=by omega
 have hb2:x / 4 % 16 < 16:=by omega
 have fin:∀ a b c,hoOk x = false→Ending.returned (.tuple #[.int .i64 0,.int .i64 0,.bool false]) = .returned (.tuple #[.int .i64 (hoK x),.int .i64 (hoN x),.bool (hoOk x)])∧(a:Nat) = a∧(b:Nat) = b∧(c:Nat) = c:=by
  intro a b c h;exact ⟨ret3i (by unfold hoK;rw [h];rfl) (by unfold hoN;rw [h];rfl) h.symm,rfl,rfl,rfl⟩
 have HF:=Lib.hid fin;clear fin
 by_cases a:x % 4 = 0
 ·have A:=Lib.hid a;have bb:(x % 4 != 0) = false:=by simp [a]
  clear a
  by_cases b:x / 4 % 16 < 1
  ·go_enter Tryz.func184,Tryz.ntmps184;go_wp2_with (go_at_call 145;refine (Tag _ (by omega) (by omega) _).mono ?_;rintro e w' ⟨rfl,rfl⟩)
   go_ret3
   exact ⟨(HF.out 0 0 0 (by unfold hoOk;simp;omega)).1,rfl⟩
  by_cases c:8 < x / 4 % 16
  ·go_enter Tryz.func184,Tryz.ntmps184;go_wp2_with (go_at_call 145;refine (Tag _ (by omega) (by omega) _).mono ?_;rintro e w' ⟨rfl,rfl⟩)
   go_ret3
   exact ⟨(HF.out 0 0 0 (by unfold hoOk;simp;omega)).1,rfl⟩
  by_cases d:65535 < x / 64
  ·go_enter Tryz.func184,Tryz.ntmps184;go_wp2_with (go_at_call 145;refine (Tag _ (by omega) (by omega) _).mono ?_;rintro e w' ⟨rfl,rfl⟩)
   go_ret3
   exact ⟨(HF.out 0 0 0 (by unfold hoOk;simp;omega)).1,rfl⟩
  go_enter Tryz.func184,Tryz.ntmps184;go_wp2_with (go_at_call 145;refine (Tag _ (by omega) (by omega) _).mono ?_;rintro e w' ⟨rfl,rfl⟩)
  go_ret3
  have a:=A.out;have hp:hoOk x = true:=by unfold hoOk;simp;omega
  exact ⟨ret3i (by unfold hoK;rw [if_pos hp]) (by unfold hoN;rw [if_pos hp]) hp.symm,rfl⟩
 ·have bb:(x % 4 != 0) = true:=by simp [a]
  go_enter Tryz.func184,Tryz.ntmps184;go_wp2_with (go_at_call 145;refine (Tag _ (by omega) (by omega) _).mono ?_;rintro e w' ⟨rfl,rfl⟩)
  go_ret3
  exact ⟨(HF.out 0 0 0 (by unfold hoOk;simp;omega)).1,rfl⟩
end
section
variable (x:Int) (h0:0 ≤ x) (h1:x ≤ 18446744073709551615) (w:World)
include h0 h1
theorem Valid:Calls Tryz.prog 188 #[.int .u64 x] w fun e w'=>e = .returned (.bool (vOk x))∧w = w':=by
 have HV:Hid (vOk x = (soOk x || aoOk x || pOk x || hoOk x || decide (x = 11))):=Lib.hid rfl;by_cases a:x = 11
 all_goals cases a1:soOk x
 all_goals cases a2:aoOk x
 all_goals cases a3:pOk x
 all_goals cases a4:hoOk x
 all_goals
  go_enter Tryz.func188,Tryz.ntmps188;go_wp2_with (first
   | (go_at_call 140;refine (Nil _).mono ?_;rintro e w' ⟨rfl,rfl⟩)
   | (go_at_call 105;refine (SmallOf _ (by omega) (by omega) _).mono ?_;rintro e w' ⟨rfl,rfl⟩)
   | (go_at_call 106;refine (AtomOf _ (by omega) (by omega) _).mono ?_;rintro e w' ⟨rfl,rfl⟩)
   | (go_at_call 131;refine (Pointer _ (by omega) (by omega) _).mono ?_;rintro e w' ⟨rfl,rfl⟩)
   | (go_at_call 184;refine (HeaderOf _ (by omega) (by omega) _).mono ?_;rintro e w' ⟨rfl,rfl⟩))
  go_ret;refine ⟨ret1b ?_,rfl⟩;rw [HV.out]
  simp_all
end
end words
namespace cl
open Go.RowKit mem words
def RowAt {α:Type} (enc:α→Value) (w:World) (B:Nat) (v:Value) (l:List α):Prop :=
 ∃ p c,v = .slice p l.length c∧l.length ≤ c∧c ≤ maxLen∧(l ≠ []→∃ g o,p = some ⟨g,o,none⟩∧g < B∧∀ j,(h:j < l.length)→w.cell? ⟨g,o + j,none⟩ = some (enc l[j]))
theorem RowAt.same {α:Type} {enc:α→Value} {w w':World} {B:Nat} {v:Value} {l:List α} (h:RowAt enc w B v l) (hs:∀ g,g < B→w'.heap[g]? = w.heap[g]?):RowAt enc w' B v l:=by
 obtain ⟨p,c,e,h1,h2,h3⟩:=h;refine ⟨p,c,e,h1,h2,fun hn=>?_⟩;obtain ⟨g,o,e',hg,hc⟩:=h3 hn;exact ⟨g,o,e',hg,fun j hj=>(World.cell?_of_block (w:=w) (w':=w') (a:=⟨g,o + j,none⟩) (hs g hg)).trans (hc j hj)⟩
theorem RowAt.below {α:Type} {enc:α→Value} {w w':World} {B B':Nat} {v:Value} {l:List α} (h:RowAt enc w B v l) (hb:Below B' w w') (hB:B ≤ B'):RowAt enc w' B v l :=
 h.same fun g hg=>hb.block g (by omega)
theorem RowAt.more {α:Type} {enc:α→Value} {w:World} {B B':Nat} {v:Value} {l:List α} (h:RowAt enc w B v l) (hB:B ≤ B'):RowAt enc w B' v l:=by
 obtain ⟨p,c,e,h1,h2,h3⟩:=h;refine ⟨p,c,e,h1,h2,fun hn=>?_⟩;obtain ⟨g,o,e',hg,hc⟩:=h3 hn;exact ⟨g,o,e',by omega,hc⟩
def Wds (l:List Int):Prop:=∀ x ∈ l,0 ≤ x∧x ≤ 18446744073709551615
abbrev WAt (w:World) (B:Nat) (v:Value) (l:List Int):Prop:=RowAt (Value.int .u64) w B v l
abbrev FAt (w:World) (B:Nat) (v:Value) (l:List Bool):Prop:=RowAt Value.bool w B v l
theorem info4:(Tryz.prog.info? 4).map (fun i=>(i.zero,i.size,i.bytes)) = some (some (.bool false),1,1):=by kernel_rfl
theorem row_lt {w:World} {base e size n cap g:Nat} {xs:List Value} (h:w.ownsRow base e size (.slice (some ⟨g,0,none⟩) n cap) n xs):g < w.heap.size:=by
 rcases h.2 with ⟨h',_⟩ | ⟨g',cap',cur,h',_,hg,_⟩
 ·simp at h'
 ·simp only [Value.slice.injEq,Option.some.injEq,Addr.mk.injEq,and_true,true_and] at h';obtain ⟨rfl,rfl⟩:=h';exact (Array.getElem?_eq_some_iff.1 hg).1
theorem own_flags {w:World} {base g n:Nat} {l:List Bool} (h:w.ownsRow base 4 1 (.slice (some ⟨g,0,none⟩) n n) n (l.map Value.bool)) (hn:l.length = n) (hm:n ≤ 100000):FAt w (g + 1) (.slice (some ⟨g,0,none⟩) n n) l:=by
 subst hn;refine ⟨_,_,rfl,Nat.le_refl _,by unfold maxLen;omega,fun _=>⟨g,0,rfl,by omega,fun j hj=>?_⟩⟩;rw [Nat.zero_add,h.cellAt j (by omega)];rw [List.getElem?_map,List.getElem?_eq_getElem hj];rfl
theorem hoN_rng (x:Int) (h:0 ≤ x):0 ≤ hoN x∧hoN x ≤ 65535:=by
 unfold hoN
 split
 ·rename_i hh;unfold hoOk at hh;have:=of_decide_eq_true hh;omega
 ·omega
theorem hok_cases (x:Int):(¬ x % 4 = 0∧hok x = true∧osz x = 2)∨(x % 4 = 0∧hoOk x = true∧hok x = true∧osz x = 1 + (hoN x).toNat)∨(x % 4 = 0∧hoOk x = false∧hok x = false):=by
 unfold hok osz
 by_cases h:x % 4 = 0
 ·cases ho:hoOk x
  ·exact .inr (.inr ⟨h,rfl,by simp [h]⟩)
  ·exact .inr (.inl ⟨h,rfl,by simp,by rw [if_pos h]⟩)
 ·exact .inl ⟨h,by simp [h],by rw [if_neg h]⟩
end cl
end Go.Proofs.YtpnlnbolhkcnjaaGreat
