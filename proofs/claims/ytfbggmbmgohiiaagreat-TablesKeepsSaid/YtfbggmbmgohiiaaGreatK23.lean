/- Texts of this seat, one behind the other: TnD. No condition beyond theirs. -/
import Derived.Test.YtfbggmbmgohiiaaGreatK22
set_option linter.unusedSimpArgs false
set_option linter.unusedVariables false
set_option maxHeartbeats 4000000
set_option maxRecDepth 100000
namespace Go.Proofs.YtfbggmbmgohiiaaGreat.tm
open Go.RowKit mem names
section
variable (i1 g1 i2 g2:Int) (n1 fn1 n2 fn2:ByteArray) (a1 a2:Int) (by1 by2:ByteArray) (s1 s2:Int) (p1 p2:Option Addr) (m1 c1 m2 c2:Nat) (w:World)
theorem f1  :
 Calls Tryz.prog 86 #[aggV ⟨1,i1,g1,n1,fn1,a1,by1,s1⟩ (.slice p1 m1 c1),aggV ⟨1,i2,g2,n2,fn2,a2,by2,s2⟩ (.slice p2 m2 c2)] w (IPostC (cmpI i1 i2) w):=by
 have HI:=Lib.hid (fun W=>ints i1 i2 W)
 generalize cmpI i1 i2 = z at *
 unfold IPostC aggV
 dsimp only
 go_enter Tryz.func86,Tryz.ntmps86
 go_wp2_with fail
 refine (HI.out _).mono ?_
 rintro e w' ⟨rfl,rfl⟩
 go_wp2_with fail
 go_ret
 exact ⟨rfl,((Below.refl _ _).alloc (Nat.le_refl _) _).alloc (by simp) _⟩
theorem f2  :
 Calls Tryz.prog 86 #[aggV ⟨2,i1,g1,n1,fn1,a1,by1,s1⟩ (.slice p1 m1 c1),aggV ⟨2,i2,g2,n2,fn2,a2,by2,s2⟩ (.slice p2 m2 c2)] w (IPostC (cmpB n1 n2) w):=by
 have HI:=Lib.hid (fun W=>texts n1 n2 W)
 generalize cmpB n1 n2 = z at *
 unfold IPostC aggV
 dsimp only
 go_enter Tryz.func86,Tryz.ntmps86
 go_wp2_with fail
 refine (HI.out _).mono ?_
 rintro e w' ⟨rfl,rfl⟩
 go_wp2_with fail
 go_ret
 exact ⟨rfl,((Below.refl _ _).alloc (Nat.le_refl _) _).alloc (by simp) _⟩
theorem f8  :
 Calls Tryz.prog 86 #[aggV ⟨8,i1,g1,n1,fn1,a1,by1,s1⟩ (.slice p1 m1 c1),aggV ⟨8,i2,g2,n2,fn2,a2,by2,s2⟩ (.slice p2 m2 c2)] w (IPostC (0) w):=by
 unfold IPostC aggV
 dsimp only
 go_enter Tryz.func86,Tryz.ntmps86
 go_wp2_with fail
 go_ret
 exact ⟨rfl,((Below.refl _ _).alloc (Nat.le_refl _) _).alloc (by simp) _⟩
end
end Go.Proofs.YtfbggmbmgohiiaaGreat.tm
