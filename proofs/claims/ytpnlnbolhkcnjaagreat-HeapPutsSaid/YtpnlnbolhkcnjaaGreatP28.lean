/- CoH,CoI,CoJ. No condition beyond theirs. -/
import Derived.Test.YtpnlnbolhkcnjaaGreatP14
set_option linter.unusedSimpArgs false
set_option linter.unusedVariables false
set_option maxHeartbeats 1000000
set_option maxRecDepth 100000
namespace Go.Proofs.YtpnlnbolhkcnjaaGreat.cl
open Go.RowKit mem words
theorem RowAt.nth {w:World} {B:Nat} {p:Option Addr} {n c:Nat} {l:List Int} (h:WAt w B (.slice p n c) l) (h0:0 < l.length):∃ g o,p = some ⟨g,o,none⟩∧n = l.length∧g < B∧∀ j,j < l.length→w.cell? ⟨g,o + j,none⟩ = some (.int .u64 (l.getD j 0)):=by
 obtain ⟨p',c',e,h1,h2,h3⟩:=h;simp only [Value.slice.injEq] at e;obtain ⟨rfl,rfl,rfl⟩:=e;obtain ⟨g,o,e,hg,hc⟩:=h3 (List.length_pos_iff.1 h0);refine ⟨g,o,e,rfl,hg,fun j hj=>?_⟩;rw [hc j hj,List.getD_eq_getElem?_getD,List.getElem?_eq_getElem hj];rfl
def fxd (k:Int) (n:Nat):Nat:=if k = 0∨k = 1 then 0 else if k = 2 then min 4 n else n
theorem fixed114 (w:World) (p:Option Addr) (n c:Nat) (k:Int):Calls Tryz.prog 133 #[.int .i64 k,.slice p n c] w fun e w'=>e = .returned (.int .i64 (fxd k n))∧w = w':=by
 by_cases h0:k = 0
 ·subst h0;go_enter Tryz.func133,Tryz.ntmps133;go_wp2_with fail;go_ret;exact ⟨rfl,rfl⟩
 by_cases h1:k = 1
 ·subst h1;go_enter Tryz.func133,Tryz.ntmps133;go_wp2_with fail;go_ret;exact ⟨rfl,rfl⟩
 have q0:(k == 0) = false:=by simpa using h0
 have q1:(k == 1) = false:=by simpa using h1
 by_cases h2:k = 2
 ·subst h2
  by_cases hn:n < 4
  ·have HX:Hid (fxd 2 n = n):=Lib.hid (by show min 4 n = n;omega);have q:decide ((n:Int) < 4) = true:=decide_eq_true (by omega);have q':(n:Int) < 4:=by omega
   generalize fxd 2 n = r at *;go_enter Tryz.func133,Tryz.ntmps133;go_wp2_with fail;go_ret;exact ⟨(by rw [HX.out];rfl),rfl⟩
  ·have HX:Hid (fxd 2 n = 4):=Lib.hid (by show min 4 n = 4;omega);have q:decide ((n:Int) < 4) = false:=decide_eq_false (by omega);have q':¬ (n:Int) < 4:=by omega
   generalize fxd 2 n = r at *;go_enter Tryz.func133,Tryz.ntmps133;go_wp2_with fail;go_ret;exact ⟨(by rw [HX.out];rfl),rfl⟩
 ·have q2:(k == 2) = false:=by simpa using h2
  have HX:Hid (fxd k n = n):=Lib.hid (by unfold fxd;rw [if_neg (by omega),if_neg h2]);generalize fxd k n = r at *;clear h0 h1 h2;go_enter Tryz.func133,Tryz.ntmps133;go_wp2_with fail;go_ret;exact ⟨(by rw [HX.out];rfl),rfl⟩
end Go.Proofs.YtpnlnbolhkcnjaaGreat.cl
