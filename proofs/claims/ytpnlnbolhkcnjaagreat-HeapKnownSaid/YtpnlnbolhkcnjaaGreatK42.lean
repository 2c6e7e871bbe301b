/- HsA,HsB. No condition beyond theirs. -/
import Derived.Test.YtpnlnbolhkcnjaaGreatK37
import Derived.Test.YtpnlnbolhkcnjaaGreatK41
set_option linter.unusedSimpArgs false
set_option linter.unusedVariables false
set_option maxHeartbeats 4000000
set_option maxRecDepth 100000
namespace Go.Proofs.YtpnlnbolhkcnjaaGreat
namespace hp
open Go.RowKit mem words rec tm
end hp
namespace tm
open Go.RowKit mem names
def SizeSame (w w':World) (F:Nat→Prop):Prop:=∀ g,F g→∀ cur fz,w.heap[g]? = some (.cells cur 38 fz)→∃ cur',w'.heap[g]? = some (.cells cur' 38 fz)∧cur'.size = cur.size
theorem SizeSame.refl (w:World) (F:Nat→Prop):SizeSame w w F:=fun g hg cur fz h=>⟨cur,h,rfl⟩
theorem SizeSame.trans {a b c:World} {F:Nat→Prop} (h:SizeSame a b F) (k:SizeSame b c F):SizeSame a c F:=fun g hg cur fz h0=>by
 obtain ⟨c1,h1,h2⟩:=h g hg cur fz h0;obtain ⟨c2,h3,h4⟩:=k g hg c1 fz h1;exact ⟨c2,h3,h4.trans h2⟩
theorem cell_of_blk {w:World} {g x:Nat} {cur:Array Value} {e:TypeId} {fz:Nat × Nat} (h:w.heap[g]? = some (.cells cur e fz)):w.cell? ⟨g,x,none⟩ = cur[x]?:=by
 unfold World.cell?;rw [h];rfl
theorem Cells.blk {w:World} {g o:Nat} {cur:Array Value} {e:TypeId} {fz:Nat × Nat} {f:TF} {v:Value} (h:w.heap[g]? = some (.cells cur e fz)) (hc:∀ i,i < 9→cur[o + i]? = (nineL f v)[i]?):Cells w g o f v :=
 Cells.of fun i hi=>(cell_of_blk h).trans (hc i hi)
def SpInv (F:Nat→Prop) (w wr:World):Prop:=Typed wr F∧SizeSame w wr F∧TouchB F w wr∧wr.heap.size = w.heap.size
theorem SpInv.trans {F:Nat→Prop} {a b c:World} (h:SpInv F a b) (k:SpInv F b c):SpInv F a c :=
 ⟨k.1,h.2.1.trans k.2.1,h.2.2.1.trans k.2.2.1 (fun _ _ h=>h),k.2.2.2.trans h.2.2.2⟩
end tm
namespace hp
open Go.RowKit mem words rec tm
end hp
end Go.Proofs.YtpnlnbolhkcnjaaGreat
