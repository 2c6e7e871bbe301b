/- HrY,HrZ. No condition beyond theirs. -/
import Derived.Test.YtpnlnbolhkcnjaaGreatK36
set_option linter.unusedSimpArgs false
set_option linter.unusedVariables false
set_option maxHeartbeats 4000000
set_option maxRecDepth 100000
namespace Go.Proofs.YtpnlnbolhkcnjaaGreat.hp
open Go.RowKit mem words rec tm
section
variable {w:World} {B z a b:Nat} {c:Int} {σ:St} {S:Nat→Prop}
theorem madeQ (h:HQ w B z a b c σ S):Calls Tryz.prog 66 #[.pointer (some ⟨z,0,none⟩)] w fun e w'=>e = .returned (.bool true)∧w = w':=by
 obtain ⟨vY,vF,m,p,cc,m1,m2,h⟩:=h;exact made66 h.ha
theorem termQ (h:HQ w B z a b c σ S) (hY:σ.Y.length ≤ 100000) {v:Int} (v0:0 ≤ v) (v1:v ≤ 18446744073709551615) :
 Calls Tryz.prog 134 #[.pointer (some ⟨z,0,none⟩),.int .u64 v] w fun e w'=>(∃ t,e = .returned (.bool t)∧(t = true↔cl.Tm (Kb σ) v))∧Below w.heap.size w w' :=
 (cl.term115 w w.heap.size z _ _ (heapQ h hY) v v0 v1).mono fun e w' hh=>by
   obtain ⟨n,rfl,t,rfl,ht⟩:=hh;exact ⟨⟨t,rfl,ht⟩,⟨rfl,rfl,rfl,Nat.le_refl _,fun _ _=>rfl⟩⟩
theorem lenQ (h:HQ w B z a b c σ S):Calls Tryz.prog 36 #[.pointer (some ⟨a,0,none⟩)] w fun e w'=>e = .returned (.int .i64 σ.N.length)∧w = w':=by
 obtain ⟨vY,vF,m,p,cc,m1,m2,h⟩:=h;exact names.Len w a σ.N m p cc h.tab
theorem cell3Q (h:HQ w B z a b c σ S):w.cell? ⟨z,6,none⟩ = some (.pointer (some ⟨a,0,none⟩)):=by
 obtain ⟨vY,vF,m,p,cc,m1,m2,h⟩:=h;exact (cell_of_blk h.ha.blk).trans rfl
theorem isQ (h:HQ w B z a b c σ S) (hY:σ.Y.length ≤ 100000) {v:Int} (v0:0 ≤ v) (v1:v ≤ 18446744073709551615) (hT:cl.Tm (Kb σ) v) (hA:aoOk v = true→aoN v < σ.N.length) :
 Calls Tryz.prog 85 #[.pointer (some ⟨z,0,none⟩),.int .u64 v] w fun e w'=>e = .returned (.bool true)∧Below w.heap.size w w':=by
 have HM:=Lib.hid (madeQ h)
 have HT:Hid (Calls Tryz.prog 134 #[.pointer (some ⟨z,0,none⟩),.int .u64 v] w fun e w'=>e = .returned (.bool true)∧Below w.heap.size w w') :=
  Lib.hid ((termQ h hY v0 v1).mono fun e w' hh=>by
   obtain ⟨⟨t,rfl,ht⟩,hb⟩:=hh
   exact ⟨by rw [ht.2 hT],hb⟩)
 have HA':=Lib.hid (fun W=>words.AtomOf v v0 v1 W);have HL:Hid (∀ W,Below w.heap.size w W→Calls Tryz.prog 36 #[.pointer (some ⟨a,0,none⟩)] W fun e w'=>e = .returned (.int .i64 σ.N.length)∧W = w'):=Lib.hid (fun W hb=>lenQ (h.below hb));have H3:Hid (∀ W,Below w.heap.size w W→W.cell? ⟨z,6,none⟩ = some (.pointer (some ⟨a,0,none⟩))):=Lib.hid (fun W hb=>cell3Q (h.below hb));clear h hY v0 v1 hT;cases ha:aoOk v with
 | false =>
  rw [ha] at HA';generalize aoN v = x at *;clear hA ha;go_enter Tryz.func85,Tryz.ntmps85;go_wp2_with fail;refine HM.out.mono ?_;rintro e w1 ⟨rfl,rfl⟩;go_wp2_with fail;refine HT.out.mono ?_;rintro e w1 ⟨rfl,hb⟩;have HB:=Lib.hid hb;clear hb;go_wp2_with fail;refine (HA'.out _).mono ?_;rintro e w2 ⟨rfl,rfl⟩;go_wp2_with fail;go_ret;exact ⟨rfl,HB.out⟩
 | true =>
  rw [ha] at HA';have q:decide (aoN v < (σ.N.length:Int)) = true:=decide_eq_true (hA ha);generalize aoN v = x at *;generalize (σ.N.length:Int) = y at *;clear hA ha;go_enter Tryz.func85,Tryz.ntmps85;go_wp2_with fail;refine HM.out.mono ?_;rintro e w1 ⟨rfl,rfl⟩;go_wp2_with fail;refine HT.out.mono ?_;rintro e w1 ⟨rfl,hb⟩;have HB:=Lib.hid hb;have c3:=H3.out w1 hb;have HL1:=Lib.hid (HL.out w1 hb);clear hb;go_wp2_with fail;refine (HA'.out _).mono ?_;rintro e w2 ⟨rfl,rfl⟩;go_wp2_with fail;refine HL1.out.mono ?_;rintro e w2 ⟨rfl,rfl⟩;go_wp2_with fail;go_ret;exact ⟨rfl,HB.out⟩
end
def NamP (w:World) (e:Ending) (w':World):Prop:=∃ a m,e = .returned (.pointer (some ⟨a,0,none⟩))∧names.Tab w' a [] m none 0∧w.heap.size ≤ a∧w.heap.size ≤ m∧Below w.heap.size w w'
theorem namN (w:World):Calls Tryz.prog 14 #[] w (NamP w) :=
 (names.New w).mono fun e w' hh=>by
   obtain ⟨rfl,hT,ht,hs⟩:=hh;exact ⟨_,_,rfl,hT,by omega,by omega,⟨ht.os,ht.tape,ht.output,ht.size,fun k hk=>ht.block k hk (fun h=>h)⟩⟩
def BloP (w:World) (e:Ending) (w':World):Prop:=∃ b m1 m2,e = .returned (.pointer (some ⟨b,0,none⟩))∧Sto w' b [] 0 0 m1 m2∧w.heap.size ≤ b∧w.heap.size ≤ m1∧w.heap.size ≤ m2∧Below w.heap.size w w'
theorem bloN (w:World):Calls Tryz.prog 15 #[] w (BloP w):=by
 have hmm:=@run_makeMap Tryz.prog;have HB:=Lib.hid (fun o o' o''=>belowA (belowA (belowA (Below.refl _ w) o) o') o'');go_enter Tryz.func15,Tryz.ntmps15;go_wp2_with fail;go_ret
 refine ⟨_,w.heap.size,w.heap.size + 1,rfl,⟨?_,?_,?_,?_,?_,?_⟩,?_,Nat.le_refl _,by omega,HB.out _ _ _⟩
 ·have:=heap_alloc_new ((w.alloc (.map #[] 0)).alloc (.map #[] 0)) (.cells #[.map (some w.heap.size),.map (some (w.heap.size + 1)),.int .i64 0,.int .i64 0] 120);simpa [World.size_alloc] using this
 ·have h1:=MapR.made Value.string w;have b1:=belowA (belowA (Below.refl _ (w.alloc (.map #[] 0))) (.map #[] 0)) (.cells #[.map (some w.heap.size),.map (some (w.heap.size + 1)),.int .i64 0,.int .i64 0] 120);exact h1.same (by simpa [World.size_alloc] using b1.block w.heap.size (by rw [World.size_alloc];omega))
 ·have h1:=MapR.made (Value.int .i64) (w.alloc (.map #[] 0));have b1:=belowA (Below.refl _ ((w.alloc (.map #[] 0)).alloc (.map #[] 0))) (.cells #[.map (some w.heap.size),.map (some (w.heap.size + 1)),.int .i64 0,.int .i64 0] 120);rw [World.size_alloc] at h1;exact h1.same (by simpa [World.size_alloc] using b1.block (w.heap.size + 1) (by rw [World.size_alloc,World.size_alloc];omega))
 ·omega
 ·omega
 ·omega
 ·omega
abbrev σ0:St:=⟨[],[],[],0,0⟩
end Go.Proofs.YtpnlnbolhkcnjaaGreat.hp
