/- WordsB,WordsC,HpA. No condition beyond theirs. -/
import Derived.Test.YtpnlnbolhkcnjaaGreatP02
import Derived.Test.YtpnlnbolhkcnjaaGreatP00
import Derived.Deep.QuietTactic
import Derived.BigQuiet
import Derived.WalkSpells
import Derived.StillTailTactics
import Derived.Outline
import Derived.IntWalk
import Derived.OwnWalk
import Derived.Laws.OwnMore
set_option linter.unusedSimpArgs false
set_option linter.unusedVariables false
set_option maxHeartbeats 4000000
set_option maxRecDepth 100000
namespace Go.Proofs.YtpnlnbolhkcnjaaGreat
namespace words
open Go.RowKit
theorem ret1 {k:IntKind} {a b:Int} (h:a = b):Ending.returned (.int k a) = .returned (.int k b):=by rw [h]
theorem ret1b {a b:Bool} (h:a = b):Ending.returned (.bool a) = .returned (.bool b):=by rw [h]
theorem ret3 {b1 b2 c1 c2:Bool} {x1 x2:Int} (h1:b1 = b2) (h2:x1 = x2) (h3:c1 = c2) :
 Ending.returned (.tuple #[.bool b1,.int .i64 x1,.bool c1]) = .returned (.tuple #[.bool b2,.int .i64 x2,.bool c2]):=by rw [h1,h2,h3]
theorem ret3i {c1 c2:Bool} {x1 x2 y1 y2:Int} (h1:y1 = y2) (h2:x1 = x2) (h3:c1 = c2) :
 Ending.returned (.tuple #[.int .i64 y1,.int .i64 x1,.bool c1]) = .returned (.tuple #[.int .i64 y2,.int .i64 x2,.bool c2]):=by rw [h1,h2,h3]
theorem ret2i {b1 b2:Bool} {x1 x2:Int} (h1:x1 = x2) (h2:b1 = b2) :
 Ending.returned (.tuple #[.int .i64 x1,.bool b1]) = .returned (.tuple #[.int .i64 x2,.bool b2]):=by rw [h1,h2]
section
variable (x:Int) (h0:0 ≤ x) (h1:x ≤ 18446744073709551615) (w:World)
include h0 h1
theorem Tag:Calls Tryz.prog 145 #[.int .u64 x] w fun e w'=>e = .returned (.int .i64 (x % 4))∧w = w':=by
 have H3:=Lib.hid (and3 x h0 h1);go_enter Tryz.func145,Tryz.ntmps145;go_wp2
 go_ret;exact ⟨ret1 (by rw [H3.out];first | done | (rw [IntKind.wrap_i64];omega) | (unfold wrap64;omega)),rfl⟩
theorem Low:Calls Tryz.prog 170 #[.int .u64 x] w fun e w'=>e = .returned (.int .i64 (x % 16))∧w = w':=by
 have H3:=Lib.hid (and15 x h0 h1);go_enter Tryz.func170,Tryz.ntmps170;go_wp2
 go_ret;exact ⟨ret1 (by rw [H3.out];first | done | (rw [IntKind.wrap_i64];omega) | (unfold wrap64;omega)),rfl⟩
theorem SmallOf:Calls Tryz.prog 105 #[.int .u64 x] w fun e w'=>e = .returned (.tuple #[.int .i64 (soN x),.bool (soOk x)])∧w = w':=by
 by_cases a:x % 16 = 3
 ·have A:=Lib.hid a;have bb:(x % 16 != 3) = false:=by simp [a]
  clear a;go_enter Tryz.func105,Tryz.ntmps105;go_wp2_with (go_at_call 170;refine (Low _ (by omega) (by omega) _).mono ?_;rintro e w' ⟨rfl,rfl⟩)
  go_ret2
  have a:=A.out;refine ⟨ret2i ?_ (by simp [soOk,a]),rfl⟩;unfold soN soOk wrap64;rw [if_pos (by simp [a])]
  split <;> omega
 ·have bb:(x % 16 != 3) = true:=by simp [a]
  go_enter Tryz.func105,Tryz.ntmps105;go_wp2_with (go_at_call 170;refine (Low _ (by omega) (by omega) _).mono ?_;rintro e w' ⟨rfl,rfl⟩)
  go_ret2
  exact ⟨ret2i (by simp [soN,soOk,a]) (by simp [soOk,a]),rfl⟩
theorem AtomOf:Calls Tryz.prog 106 #[.int .u64 x] w fun e w'=>e = .returned (.tuple #[.int .i64 (aoN x),.bool (aoOk x)])∧w = w':=by
 by_cases a:x % 16 = 7
 ·have A:=Lib.hid a;have bb:(x % 16 != 7) = false:=by simp [a]
  clear a;by_cases c:2147483647 < x / 16
  all_goals
   go_enter Tryz.func106,Tryz.ntmps106;go_wp2_with (go_at_call 170;refine (Low _ (by omega) (by omega) _).mono ?_;rintro e w' ⟨rfl,rfl⟩)
   go_ret2
   have a:=A.out
  ·exact ⟨ret2i (by unfold aoN aoOk;rw [if_neg (by simp;omega)]) (by unfold aoOk;simp;omega),rfl⟩
  ·exact ⟨ret2i (by unfold aoN aoOk;rw [if_pos (by simp;omega)]) (by unfold aoOk;simp;omega),rfl⟩
 ·have bb:(x % 16 != 7) = true:=by simp [a]
  go_enter Tryz.func106,Tryz.ntmps106;go_wp2_with (go_at_call 170;refine (Low _ (by omega) (by omega) _).mono ?_;rintro e w' ⟨rfl,rfl⟩)
  go_ret2
  exact ⟨ret2i (by simp [aoN,aoOk,a]) (by simp [aoOk,a]),rfl⟩
theorem Pointer:Calls Tryz.prog 131 #[.int .u64 x] w fun e w'=>e = .returned (.tuple #[.bool (pOld x),.int .i64 (pIx x),.bool (pOk x)])∧w = w':=by
 have H4:=Lib.hid (and4 x h0 h1)
 by_cases a:x % 4 = 1∨x % 4 = 2
 ·by_cases c:x / 8 ≤ 2147483647
  ·have A:=Lib.hid a;have B:((x % 4 != 1) = true∧(x % 4 != 2) = false)∨(x % 4 != 1) = false:=by rcases a with a | a <;> simp [a]
   clear a;rcases B with ⟨b1,b2⟩ | b1
   all_goals
    go_enter Tryz.func131,Tryz.ntmps131;go_wp2_with (go_at_call 145;refine (Tag _ (by omega) (by omega) _).mono ?_;rintro e w' ⟨rfl,rfl⟩)
    go_ret3
    have a:=A.out;have hp:pOk x = true:=by unfold pOk;simp;omega
    refine ⟨ret3 ?_ (by unfold pIx;rw [if_pos hp]) hp.symm,rfl⟩;rw [H4.out];unfold pOld;rw [hp];have:x / 4 % 2 = 0∨x / 4 % 2 = 1:=by omega
    rcases this with h | h <;> simp [h]
  ·have A:=Lib.hid a;have B:((x % 4 != 1) = true∧(x % 4 != 2) = false)∨(x % 4 != 1) = false:=by rcases a with a | a <;> simp [a]
   clear a;rcases B with ⟨b1,b2⟩ | b1
   all_goals
    go_enter Tryz.func131,Tryz.ntmps131;go_wp2_with (go_at_call 145;refine (Tag _ (by omega) (by omega) _).mono ?_;rintro e w' ⟨rfl,rfl⟩)
    go_ret3
    have hp:pOk x = false:=by unfold pOk;simp;omega
    exact ⟨ret3 (by unfold pOld;rw [hp];rfl) (by unfold pIx;rw [hp];rfl) hp.symm,rfl⟩
 ·have b1:(x % 4 != 1) = true:=by simp;omega
  have b2:(x % 4 != 2) = true:=by simp;omega
  have A:=Lib.hid a;clear a;go_enter Tryz.func131,Tryz.ntmps131;go_wp2_with (go_at_call 145;refine (Tag _ (by omega) (by omega) _).mono ?_;rintro e w' ⟨rfl,rfl⟩)
  go_ret3
  have a:=A.out;have hp:pOk x = false:=by unfold pOk;simp;omega
  exact ⟨ret3 (by unfold pOld;rw [hp];rfl) (by unfold pIx;rw [hp];rfl) hp.symm,rfl⟩
theorem HeaderOf:Calls Tryz.prog 184 #[.int .u64 x] w fun e w'=>e = .returned (.tuple #[.int .i64 (hoK x),.int .i64 (hoN x),.bool (hoOk x)])∧w = w':=by
 have H4:bits .and .u64 (x / 4) 15 = x / 4 % 16:=and15 (x / 4) (by omega) (by omega);have G:∀ b:Bool,(decide (x % 4 = 0) = b)→hoOk x = (b && decide (1 ≤ x / 4 % 16) && decide (x / 4 % 16 ≤ 8) && decide (x / 64 ≤ 65535)):=by
  intro b hb;rw [← hb];unfold hoOk;rw [Bool.eq_iff_iff];simp [and_assoc]
 have HG:=Lib.hid G;clear G;have hb1:0 ≤ x / 4 % 16:=by omega
 have hb2:x / 4 % 16 < 16:=by omega
 have fin:∀ a b c,hoOk x = false→Ending.returned (.tuple #[.int .i64 0,.int .i64 0,.bool false]) = .returned (.tuple #[.int .i64 (hoK x),.int .i64 (hoN x),.bool (hoOk x)])∧(a:Nat) = a∧(b:Nat) = b∧(c:Nat) = c:=by
  intro a b c h;exact ⟨ret3i (by unfold hoK;rw [h];rfl) (by unfold hoN;rw [h];rfl) h.symm,rfl,rfl,rfl⟩
 have HF:=Lib.hid fin;clear fin
 by_cases a:x % 4 = 0
 ·have A:=Lib.hid a;have bb:(x % 4 != 0) = false:=by simp [a]
  clear a
  by_cases b:x / 4 % 16 < 1
  ·go_enter Tryz.func184,Tryz.ntmps184;go_wp2_with (go_at_call 145;refine (Tag _ (by omega) (by omega) _).mono ?_;rintro e w' ⟨rfl,rfl⟩)
   go_ret3
   exact ⟨(HF.out 0 0 0 (by unfold hoOk;simp;omega)).1,rfl⟩
  by_cases c:8 < x / 4 % 16
  ·go_enter Tryz.func184,Tryz.ntmps184;go_wp2_with (go_at_call 145;refine (Tag _ (by omega) (by omega) _).mono ?_;rintro e w' ⟨rfl,rfl⟩)
   go_ret3
   exact ⟨(HF.out 0 0 0 (by unfold hoOk;simp;omega)).1,rfl⟩
  by_cases d:65535 < x / 64
  ·go_enter Tryz.func184,Tryz.ntmps184;go_wp2_with (go_at_call 145;refine (Tag _ (by omega) (by omega) _).mono ?_;rintro e w' ⟨rfl,rfl⟩)
   go_ret3
   exact ⟨(HF.out 0 0 0 (by unfold hoOk;simp;omega)).1,rfl⟩
  go_enter Tryz.func184,Tryz.ntmps184;go_wp2_with (go_at_call 145;refine (Tag _ (by omega) (by omega) _).mono ?_;rintro e w' ⟨rfl,rfl⟩)
  go_ret3
  have a:=A.out;have hp:hoOk x = true:=by unfold hoOk;simp;omega
  exact ⟨ret3i (by unfold hoK;rw [if_pos hp]) (by unfold hoN;rw [if_pos hp]) hp.symm,rfl⟩
 ·have bb:(x % 4 != 0) = true:=by simp [a]
  go_enter Tryz.func184,Tryz.ntmps184;go_wp2_with (go_at_call 145;refine (Tag _ (by omega) (by omega) _).mono ?_;rintro e w' ⟨rfl,rfl⟩)
  go_ret3
  exact ⟨(HF.out 0 0 0 (by unfold hoOk;simp;omega)).1,rfl⟩
end
section
variable (x:Int) (h0:0 ≤ x) (h1:x ≤ 18446744073709551615) (w:World)
include h0 h1
theorem Valid:Calls Tryz.prog 188 #[.int .u64 x] w fun e w'=>e = .returned (.bool (vOk x))∧w = w':=by
 have HV:Hid (vOk x = (soOk x || aoOk x || pOk x || hoOk x || decide (x = 11))):=Lib.hid rfl;by_cases a:x = 11
 all_goals cases a1:soOk x
 all_goals cases a2:aoOk x
 all_goals cases a3:pOk x
 all_goals cases a4:hoOk x
 all_goals
  go_enter Tryz.func188,Tryz.ntmps188;go_wp2_with (first
   | (go_at_call 140;refine (Nil _).mono ?_;rintro e w' ⟨rfl,rfl⟩)
   | (go_at_call 105;refine (SmallOf _ (by omega) (by omega) _).mono ?_;rintro e w' ⟨rfl,rfl⟩)
   | (go_at_call 106;refine (AtomOf _ (by omega) (by omega) _).mono ?_;rintro e w' ⟨rfl,rfl⟩)
   | (go_at_call 131;refine (Pointer _ (by omega) (by omega) _).mono ?_;rintro e w' ⟨rfl,rfl⟩)
   | (go_at_call 184;refine (HeaderOf _ (by omega) (by omega) _).mono ?_;rintro e w' ⟨rfl,rfl⟩))
  go_ret;refine ⟨ret1b ?_,rfl⟩;rw [HV.out]
  simp_all
end
end words
namespace hp
open Go.RowKit mem words rec
def encW (x:Int):List Value:=[.int .u64 x]
def encF (b:Bool):List Value:=[.bool b]
theorem encW_ok (l:List Int):EncOK encW 1 l:=fun a _=>⟨rfl,fun u hu=>by
 simp only [encW,List.mem_cons,List.not_mem_nil,or_false] at hu;subst hu;rfl⟩
theorem encF_ok (l:List Bool):EncOK encF 1 l:=fun a _=>⟨rfl,fun u hu=>by
 simp only [encF,List.mem_cons,List.not_mem_nil,or_false] at hu;subst hu;rfl⟩
theorem belowA {w wr:World} (h:Below w.heap.size w wr) (o:Obj):Below w.heap.size w (wr.alloc o):=h.alloc h.size _
theorem cell_of_blk {w:World} {g x:Nat} {cur:Array Value} {e:TypeId} {fz:Nat × Nat} (h:w.heap[g]? = some (.cells cur e fz)):w.cell? ⟨g,x,none⟩ = cur[x]?:=by
 unfold World.cell?;rw [h];rfl
theorem belowD {B:Nat} {a w:World} (h:Below B a w):Below B a w.drew:=⟨h.os,h.tape,h.output,h.size,h.block⟩
def PtrP (w:World) (e:Ending) (w':World):Prop:=∃ z,e = .returned (.pointer (some ⟨z,0,none⟩))∧Below w.heap.size w w'
theorem names14 (w:World):Calls Tryz.prog 14 #[] w (PtrP w):=by
 have hmm:=@run_makeMap Tryz.prog;have HB:=Lib.hid (fun o o'=>belowA (belowA (Below.refl _ w) o) o');go_enter Tryz.func14,Tryz.ntmps14;go_wp2_with fail;go_ret;exact ⟨_,rfl,HB.out _ _⟩
theorem blobs15 (w:World):Calls Tryz.prog 15 #[] w (PtrP w):=by
 have hmm:=@run_makeMap Tryz.prog;have HB:=Lib.hid (fun o o' o''=>belowA (belowA (belowA (Below.refl _ w) o) o') o'');go_enter Tryz.func15,Tryz.ntmps15;go_wp2_with fail;go_ret;exact ⟨_,rfl,HB.out _ _ _⟩
abbrev hcells (vY vF:Value) (c:Int) (a b:Nat):Array Value:=#[vY,vF,.slice none 0 0,.slice none 0 0,.int .i64 0,.int .i64 c,.pointer (some ⟨a,0,none⟩),.pointer (some ⟨b,0,none⟩)]
theorem elty_of {sl e s b:Nat} {z:Value} (hu:Tryz.prog.underlying sl = some (.slice e)) (hi:(Tryz.prog.info? e).map (fun i=>(i.zero,i.size,i.bytes)) = some (some z,s,b)) (hz:z.cells.size = s) (hs:0 < s) (hb:b ≤ 10000):ElTy sl e s:=by
 cases hq:Tryz.prog.info? e with
 | none=>rw [hq] at hi;simp at hi
 | some i =>
  rw [hq] at hi;simp only [Option.map_some,Option.some.injEq,Prod.mk.injEq] at hi;exact ⟨hu,⟨i,z,hq,hi.1,hi.2.1,hz,by omega⟩,hs⟩
theorem info4:(Tryz.prog.info? 4).map (fun i=>(i.zero,i.size,i.bytes)) = some (some (.bool false),1,1):=by kernel_rfl
theorem info40:(Tryz.prog.info? 40).map (fun i=>(i.zero,i.size,i.bytes)) = some (some (.int .u64 0),1,8):=by kernel_rfl
theorem elW:ElTy 22 40 1:=elty_of Tryz.underlying22 info40 rfl (by decide) (by decide)
theorem elF:ElTy 99 4 1:=elty_of Tryz.underlying99 info4 rfl (by decide) (by decide)
structure HA (w:World) (B z a b:Nat) (c:Int) (vY vF:Value) (Y:List Int) (F:List Bool):Prop where
 blk:w.heap[z]? = some (.cells (hcells vY vF c a b) 124)
 y:RecOwn encW 40 1 w B vY Y
 f:RecOwn encF 4 1 w B vF F
 hz:B ≤ z
def NewP (a b:Nat) (c:Int) (w:World) (e:Ending) (w':World):Prop:=∃ z,e = .returned (.pointer (some ⟨z,0,none⟩))∧Below w.heap.size w w'∧HA w' w.heap.size z a b c (.slice none 0 0) (.slice none 0 0) [] []
theorem heap17 (w:World) (a b:Nat) (c:Int) (h1:1 ≤ c) (h2:c ≤ 1048576):Calls Tryz.prog 17 #[.pointer (some ⟨a,0,none⟩),.pointer (some ⟨b,0,none⟩),.int .i64 c] w (NewP a b c w):=by
 have q1:decide (c < 1) = false:=decide_eq_false (by omega);have q2:decide ((1048576:Int) < c) = false:=decide_eq_false (by omega);have HB:=Lib.hid (fun o=>belowA (Below.refl _ w) o);clear h1 h2;go_enter Tryz.func17,Tryz.ntmps17;go_wp2_with fail;go_ret;exact ⟨_,rfl,HB.out _,heap_alloc_new w _,RecOwn.nil _ _ _,RecOwn.nil _ _ _,Nat.le_refl _⟩
theorem made66 {w:World} {B z a b:Nat} {c:Int} {vY vF:Value} {Y:List Int} {F:List Bool} (h:HA w B z a b c vY vF Y F):Calls Tryz.prog 66 #[.pointer (some ⟨z,0,none⟩)] w fun e w'=>e = .returned (.bool true)∧w = w':=by
 have c6:w.cell? ⟨z,6,none⟩ = some (.pointer (some ⟨a,0,none⟩)):=(cell_of_blk h.blk).trans rfl;clear h;go_enter Tryz.func66,Tryz.ntmps66;go_wp2_with fail;go_ret;exact ⟨rfl,rfl⟩
theorem HA.below {w w':World} {B z a b:Nat} {c:Int} {vY vF:Value} {Y:List Int} {F:List Bool} (h:HA w B z a b c vY vF Y F) (hb:Below w.heap.size w w'):HA w' B z a b c vY vF Y F :=
 ⟨(hb.block z (Array.getElem?_eq_some_iff.1 h.blk).1).trans h.blk,h.y.below hb,h.f.below hb,h.hz⟩
theorem room39 {w:World} {B z a b:Nat} {c:Int} {vY vF:Value} {Y:List Int} {F:List Bool} (h:HA w B z a b c vY vF Y F) (hl:Y.length ≤ 1000000) (hc:-2000000 ≤ c) (hc2:c ≤ 2000000):Calls Tryz.prog 39 #[.pointer (some ⟨z,0,none⟩)] w fun e w'=>e = .returned (.int .i64 (c - Y.length))∧Below w.heap.size w w':=by
 have HM:=Lib.hid (made66 h);obtain ⟨py,cy,ey,_,_⟩:=h.y.shape;have c0:w.cell? ⟨z,0,none⟩ = some vY:=(cell_of_blk h.blk).trans rfl;have c5:w.cell? ⟨z,5,none⟩ = some (.int .i64 c):=(cell_of_blk h.blk).trans rfl;have hw:wrap64 (c - Y.length) = c - Y.length:=IntWalk.wrap64_in _ (by omega);clear h;subst ey;generalize Y.length = n at *;have HW:=Lib.hid hw;have HB:=Lib.hid (belowD (Below.refl w.heap.size w));clear hl hw;go_enter Tryz.func39,Tryz.ntmps39;go_wp2_with fail;refine HM.out.mono ?_;rintro e w' ⟨rfl,rfl⟩;go_wp2_with fail;go_still (by kernel_rfl)
 go_wp2_with fail;go_ret;refine ⟨?_,HB.out⟩;show Ending.returned (.int .i64 (IntKind.i64.wrap (c - n))) = _;rw [IntWalk.i64_left,HW.out]
theorem used19 {w:World} {B z a b:Nat} {c:Int} {vY vF:Value} {Y:List Int} {F:List Bool} (h:HA w B z a b c vY vF Y F) (hl:Y.length ≤ 1000000):Calls Tryz.prog 19 #[.pointer (some ⟨z,0,none⟩)] w fun e w'=>e = .returned (.int .i64 Y.length)∧Below w.heap.size w w':=by
 have HM:=Lib.hid (made66 h);obtain ⟨py,cy,ey,_,_⟩:=h.y.shape;have c0:w.cell? ⟨z,0,none⟩ = some vY:=(cell_of_blk h.blk).trans rfl;have c2:w.cell? ⟨z,2,none⟩ = some (.slice none 0 0):=(cell_of_blk h.blk).trans rfl;have hw:wrap64 (Y.length:Int) = Y.length:=IntWalk.wrap64_in _ (by omega);clear h;subst ey;generalize Y.length = n at *;have HW:=Lib.hid hw;have HB:=Lib.hid (belowD (Below.refl w.heap.size w));clear hl hw;go_enter Tryz.func19,Tryz.ntmps19;go_wp2_with fail;refine HM.out.mono ?_;rintro e w' ⟨rfl,rfl⟩;go_wp2_with fail;go_still (by kernel_rfl)
 go_wp2_with fail;go_ret;refine ⟨?_,HB.out⟩;show Ending.returned (.int .i64 (IntKind.i64.wrap n)) = _;rw [IntWalk.i64_left,HW.out]
end hp
end Go.Proofs.YtpnlnbolhkcnjaaGreat
