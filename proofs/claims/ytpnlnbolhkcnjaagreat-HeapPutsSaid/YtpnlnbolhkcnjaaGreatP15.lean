/- HpG,HpH. No condition beyond theirs. -/
import Derived.Test.YtpnlnbolhkcnjaaGreatP08
import Derived.Test.YtpnlnbolhkcnjaaGreatP14
set_option linter.unusedSimpArgs false
set_option linter.unusedVariables false
set_option maxHeartbeats 4000000
set_option maxRecDepth 100000
namespace Go.Proofs.YtpnlnbolhkcnjaaGreat.hp
open Go.RowKit mem words rec
theorem row_words {w:World} {B:Nat} {v:Value} {l:List Int} (h:RecAt encW 1 w B v l):cl.WAt w B v l:=by
 obtain ⟨p,c,e,h1,h2,h3⟩:=h;refine ⟨p,c,e,h1,h2,fun hn=>?_⟩;obtain ⟨g,o,e',hg,hc⟩:=h3 hn;exact ⟨g,o,e',hg,fun j hj=>by simpa using hc j _ (List.getElem?_eq_getElem hj) 0 _ rfl⟩
theorem row_flags {w:World} {B:Nat} {v:Value} {l:List Bool} (h:RecAt encF 1 w B v l):cl.FAt w B v l:=by
 obtain ⟨p,c,e,h1,h2,h3⟩:=h;refine ⟨p,c,e,h1,h2,fun hn=>?_⟩;obtain ⟨g,o,e',hg,hc⟩:=h3 hn;exact ⟨g,o,e',hg,fun j hj=>by simpa using hc j _ (List.getElem?_eq_getElem hj) 0 _ rfl⟩
def m1:cl.Mm:=⟨[19,11,19,1],[],0⟩
def K1:cl.Bk:=⟨[[19,11],[19,1]],[]⟩
abbrev F1:List Bool:=[true,false,true,false]
theorem heap_in {w:World} {B z a b:Nat} {c:Int} {vY vF:Value} (h:HA w B z a b c vY vF [19,11,19,1] F1):cl.HeapIn w w.heap.size z m1 K1:=by
 refine ⟨⟨⟨vY,vF,(cell_of_blk h.blk).trans rfl,(cell_of_blk h.blk).trans rfl,row_words (h.y.row (encW_ok _)),?_⟩,?_,?_,by decide⟩,⟨⟨.slice none 0 0,.slice none 0 0,(cell_of_blk h.blk).trans rfl,(cell_of_blk h.blk).trans rfl,?_,?_⟩,?_,?_,by decide⟩⟩
 ·have:=row_flags (h.f.row (encF_ok _));exact this
 ·refine ⟨rfl,?_⟩;intro o ho;simp only [K1,List.mem_cons,List.not_mem_nil,or_false] at ho
  rcases ho with rfl | rfl
  ·exact ⟨19,[11],rfl,by decide,by decide⟩
  ·exact ⟨19,[1],rfl,by decide,by decide⟩
 ·intro x hx;simp only [m1,List.mem_cons,List.not_mem_nil,or_false] at hx;rcases hx with rfl | rfl | rfl | rfl <;> decide
 ·exact ⟨none,0,rfl,Nat.le_refl _,by unfold maxLen;omega,fun h=>absurd rfl h⟩
 ·exact ⟨none,0,rfl,Nat.le_refl _,by unfold maxLen;omega,fun h=>absurd rfl h⟩
 ·exact ⟨rfl,fun o ho=>by simp [K1] at ho⟩
 ·intro x hx;simp [m1] at hx
theorem pt17:cl.Pt K1 17 [19,1]:=⟨by decide,.inr ⟨by decide,.inl ⟨by decide,rfl⟩⟩,by decide⟩
theorem pt1:cl.Pt K1 1 [19,11]:=⟨by decide,.inl ⟨by decide,rfl⟩,by decide⟩
theorem no11:¬ ∃ x,cl.Pt K1 11 x:=by
 rintro ⟨x,h,_⟩;revert h;decide
theorem is17 {w:World} {B z a b:Nat} {c:Int} {vY vF:Value} (h:HA w B z a b c vY vF [19,11,19,1] F1) :
 Calls Tryz.prog 85 #[.pointer (some ⟨z,0,none⟩),.int .u64 17] w fun e w'=>e = .returned (.bool true)∧Below w.heap.size w w':=by
 have HM:=Lib.hid (made66 h)
 have HT:Hid (Calls Tryz.prog 134 #[.pointer (some ⟨z,0,none⟩),.int .u64 17] w fun e w'=>e = .returned (.bool true)∧Below w.heap.size w w') :=
  Lib.hid ((cl.term115 w w.heap.size z m1 K1 (heap_in h) 17 (by omega) (by omega)).mono fun e w' h=>by
   obtain ⟨n,rfl,b,rfl,hb⟩:=h
   exact ⟨by rw [hb.2 (.inr (.inr (.inr ⟨_,pt17⟩)))],⟨rfl,rfl,rfl,Nat.le_refl _,fun _ _=>rfl⟩⟩)
 have HA':=Lib.hid (fun W=>words.AtomOf 17 (by omega) (by omega) W);have e1:aoOk 17 = false:=by decide
 have e2:aoN 17 = 0:=by decide
 rw [e1,e2] at HA';clear h e1 e2;go_enter Tryz.func85,Tryz.ntmps85;go_wp2_with fail;refine HM.out.mono ?_;rintro e w1 ⟨rfl,rfl⟩;go_wp2_with fail;refine HT.out.mono ?_;rintro e w1 ⟨rfl,hb⟩;have HB:=Lib.hid hb;clear hb;go_wp2_with fail;refine (HA'.out _).mono ?_;rintro e w2 ⟨rfl,rfl⟩;go_wp2_with fail;go_ret;exact ⟨rfl,HB.out⟩
theorem int153 (w:World) (n:Int):Calls Tryz.prog 153 #[.int .i64 n] w fun e w'=>e = .returned (flatT 1 n)∧Below w.heap.size w w':=by
 have HB:=Lib.hid (fun o=>belowA (Below.refl _ w) o);go_enter Tryz.func153,Tryz.ntmps153;go_wp2_with fail;exact bodyPost_ret (v:=flatT 1 n) (by simp [results,Tryz.results153,go_sem, *]) rfl ⟨rfl,HB.out _⟩
theorem nil155 (w:World):Calls Tryz.prog 155 #[] w fun e w'=>e = .returned (flatT 8 0)∧Below w.heap.size w w':=by
 have HB:=Lib.hid (fun o=>belowA (Below.refl _ w) o);go_enter Tryz.func155,Tryz.ntmps155;go_wp2_with fail;exact bodyPost_ret (v:=flatT 8 0) (by simp [results,Tryz.results155,go_sem, *]) rfl ⟨rfl,HB.out _⟩
section
variable {w:World} {B z a b:Nat} {c:Int} {vY vF:Value}
def ObY (l:List Int) (w:World) (e:Ending) (w':World):Prop:=∃ u,e = .returned (.tuple #[.int .i64 0,u,.bool true])∧cl.WAt w' w.heap.size u l∧Below w.heap.size w w'
theorem obj_at (h:HA w B z a b c vY vF [19,11,19,1] F1) {v:Int} {x:List Int} (v0:0 ≤ v) (v1:v ≤ 18446744073709551615) (hp:cl.Pt K1 v x) (hk:cl.knd x = 0) (hw:cl.wds x = x) :
 Calls Tryz.prog 75 #[.pointer (some ⟨z,0,none⟩),.int .u64 v] w (ObY x w) :=
 (cl.object96 w w.heap.size z m1 K1 (heap_in h) v v0 v1).mono fun e w' hh=>by
   obtain ⟨n,rfl,⟨y,u,hy,rfl,hu⟩ | ⟨hn,_⟩⟩:=hh
   ·obtain rfl:=cl.Pt.uniq (heap_in h).pos hy hp;rw [hw] at hu;exact ⟨u,by rw [hk],hu.drewN n,⟨rfl,rfl,rfl,Nat.le_refl _,fun _ _=>rfl⟩⟩
   ·exact absurd ⟨x,hp⟩ hn
theorem obj_no (h:HA w B z a b c vY vF [19,11,19,1] F1) :
 Calls Tryz.prog 75 #[.pointer (some ⟨z,0,none⟩),.int .u64 11] w fun e w'=>e = .returned (.tuple #[.int .i64 0,.slice none 0 0,.bool false])∧Below w.heap.size w w' :=
 (cl.object96 w w.heap.size z m1 K1 (heap_in h) 11 (by omega) (by omega)).mono fun e w' hh=>by
   obtain ⟨n,rfl,⟨y,u,hy,rfl,hu⟩ | ⟨hn,rfl⟩⟩:=hh
   ·exact absurd ⟨y,hy⟩ no11
   ·exact ⟨rfl,⟨rfl,rfl,rfl,Nat.le_refl _,fun _ _=>rfl⟩⟩
abbrev kinds:Array Value:=#[.int .i64 9,.int .i64 7,.int .i64 4,.int .i64 5,.int .i64 6,.int .i64 3,.int .i64 1,.int .i64 10,.int .i64 10]
theorem index163 (W:World):(Instr.index 163 (.agg kinds) (.int .i64 0)).run Tryz.prog W = .ok (.int .i64 9) W:=by
 have h3:(Tryz.prog.info? 3).map (·.size) = some 1:=by kernel_rfl
 cases hi:Tryz.prog.info? 3 with
 | none=>rw [hi] at h3;simp at h3
 | some i =>
  rw [hi] at h3;have hs:i.size = 1:=by simpa using h3
  simp [Instr.index,run_underlying Tryz.underlying163,sizeOf,typeInfo,hi,hs,asInt,asIntOf,go_sem,kinds]
theorem kind46 (h:HA w B z a b c vY vF [19,11,19,1] F1) :
 Calls Tryz.prog 46 #[.pointer (some ⟨z,0,none⟩),.int .u64 17] w fun e w'=>e = .returned (.int .i64 9)∧Below w.heap.size w w':=by
 have HI:=Lib.hid (is17 h);have HH:=Lib.hid h;have HS:=Lib.hid (fun W=>words.SmallOf 17 (by omega) (by omega) W);have HA':=Lib.hid (fun W=>words.AtomOf 17 (by omega) (by omega) W);have e1:aoOk 17 = false:=by decide
 have e2:aoN 17 = 0:=by decide
 have e3:soOk 17 = false:=by decide
 have e4:soN 17 = 0:=by decide
 rw [e1,e2] at HA';rw [e3,e4] at HS;have hix:=index163;clear h e1 e2 e3 e4;go_enter Tryz.func46,Tryz.ntmps46;go_wp2_with fail;refine HI.out.mono ?_;rintro e w1 ⟨rfl,hb⟩;have HO:=Lib.hid (obj_at (HH.out.below hb) (by omega) (by omega) pt17 (by decide) (by decide));have HB:=Lib.hid hb;clear hb;go_wp2_with fail;refine (HS.out _).mono ?_;rintro e w2 ⟨rfl,rfl⟩;go_wp2_with fail;refine (HA'.out _).mono ?_;rintro e w2 ⟨rfl,rfl⟩;go_wp2_with fail;refine HO.out.mono ?_;rintro e w3 ⟨u,rfl,_,hb3⟩;have HB3:=Lib.hid (HB.out.trans (hb3.mono HB.out.size));clear hb3;go_wp2_with fail;go_ret;exact ⟨rfl,HB3.out⟩
end
end Go.Proofs.YtpnlnbolhkcnjaaGreat.hp
