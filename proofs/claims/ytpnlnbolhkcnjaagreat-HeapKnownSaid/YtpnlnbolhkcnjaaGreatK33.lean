/- HrM,HrN,HrO,HrP. No condition beyond theirs. -/
import Derived.Test.YtpnlnbolhkcnjaaGreatK32
set_option linter.unusedSimpArgs false
set_option linter.unusedVariables false
set_option maxHeartbeats 4000000
set_option maxRecDepth 100000
namespace Go.Proofs.YtpnlnbolhkcnjaaGreat.hp
open Go.RowKit mem words rec tm
theorem mkb (W:World) (k:Nat) (hk:k ≤ 100000):(Instr.makeSlice 47 (.int .i64 k) (.int .i64 k)).run Tryz.prog W = .ok (.slice (some ⟨W.heap.size,0,none⟩) k k) (W.alloc (.cells (Array.replicate k (Value.int .u8 0)) 5)):=by
 obtain ⟨hund,⟨i,z,hi,hz,hs,hzs,hby⟩,hpos⟩:=elB;have hz':z = .int .u8 0:=by
  have:=info5;rw [hi] at this;simp only [Option.map_some,Option.some.injEq,Prod.mk.injEq] at this;rw [hz] at this;exact Option.some.inj this.1
 subst hz';have:=run_make (P:=Tryz.prog) W 47 5 i _ hund hi hz .i64 .i64 (k:Int) (k:Int) (by omega) (by omega) (by
  have:i.bytes * k ≤ 10000 * 100000:=Nat.mul_le_mul hby hk
  have h2:((i.bytes * k:Nat):Int) ≤ ((10000 * 100000:Nat):Int):=Int.ofNat_le.2 this
  rw [Int.natCast_mul] at h2
  omega) (by omega)
 rw [hs,Int.toNat_natCast,Nat.mul_one] at this;rw [this];have e:madeCells (Value.int .u8 0).cells k = Array.replicate k (Value.int .u8 0):=by
  apply Array.toList_inj.1;rw [Array.toList_replicate];have:=toList_madeCells_one (.int .u8 0) k;show (madeCells #[Value.int .u8 0] k).toList = _;rw [this]
 rw [e]
theorem words_row {w:World} {B:Nat} {v:Value} {l:List Int} (h:cl.WAt w B v l):RecAt encW 1 w B v l:=by
 obtain ⟨p,c,e,h1,h2,h3⟩:=h;refine ⟨p,c,e,h1,h2,fun hn=>?_⟩;obtain ⟨g,o,e',hg,hc⟩:=h3 hn;refine ⟨g,o,e',hg,fun j x hj k u hu=>?_⟩;obtain ⟨hl,rfl⟩:=List.getElem?_eq_some_iff.1 hj;have hk:k = 0:=by
  have:=(List.getElem?_eq_some_iff.1 hu).1;simpa [encW] using this
 subst hk;simp only [encW,List.getElem?_cons_zero,Option.some.injEq] at hu;subst hu;rw [Nat.mul_one,Nat.add_zero];exact hc j hl
section
variable {w:World} {B z a b:Nat} {c:Int} {σ:St} {S:Nat→Prop}
theorem heapQ (h:HQ w B z a b c σ S) (hY:σ.Y.length ≤ 100000):cl.HeapIn w w.heap.size z ⟨σ.Y,[],0⟩ (Kb σ):=by
 obtain ⟨vY,vF,m,p,cc,m1,m2,h⟩:=h
 refine ⟨⟨⟨vY,vF,(cell_of_blk h.ha.blk).trans rfl,(cell_of_blk h.ha.blk).trans rfl,row_words (h.ha.y.row (encW_ok _)),row_flags (h.ha.f.row (encF_ok _))⟩,⟨rfl,fun o ho=>(h.pos o ho).1⟩,fun x hx=>?_,hY⟩,⟨⟨.slice none 0 0,.slice none 0 0,(cell_of_blk h.ha.blk).trans rfl,(cell_of_blk h.ha.blk).trans rfl,?_,?_⟩,⟨rfl,fun o ho=>by simp [Kb] at ho⟩,fun x hx=>by simp at hx,Nat.zero_le _⟩⟩
 ·obtain ⟨o,ho,hxo⟩:=List.mem_flatten.1 hx;exact (h.pos o ho).2 x hxo
 ·exact ⟨none,0,rfl,Nat.le_refl _,by unfold maxLen;omega,fun h=>absurd rfl h⟩
 ·exact ⟨none,0,rfl,Nat.le_refl _,by unfold maxLen;omega,fun h=>absurd rfl h⟩
def ObP (k:Int) (l:List Int) (w:World) (e:Ending) (w':World):Prop:=∃ u,e = .returned (.tuple #[.int .i64 k,u,.bool true])∧RecAt encW 1 w' w.heap.size u l∧Below w.heap.size w w'
theorem objQ (h:HQ w B z a b c σ S) (hY:σ.Y.length ≤ 100000) {v:Int} {x:List Int} (v0:0 ≤ v) (v1:v ≤ 18446744073709551615) (hp:cl.Pt (Kb σ) v x) :
 Calls Tryz.prog 75 #[.pointer (some ⟨z,0,none⟩),.int .u64 v] w (ObP (cl.knd x) (cl.wds x) w) :=
 (cl.object96 w w.heap.size z _ _ (heapQ h hY) v v0 v1).mono fun e w' hh=>by
   obtain ⟨n,rfl,⟨y,u,hy,rfl,hu⟩ | ⟨hn,_⟩⟩:=hh
   ·obtain rfl:=cl.Pt.uniq (heapQ h hY).pos hy hp;exact ⟨u,rfl,words_row (hu.drewN n),⟨rfl,rfl,rfl,Nat.le_refl _,fun _ _=>rfl⟩⟩
   ·exact absurd ⟨x,hp⟩ hn
end
def GetP {n:Nat} (f:TF) (l:List (Tm n)) (w:World) (e:Ending) (w':World):Prop:=∃ u,e = .returned (aggV f u)∧ItemsIn w' (fun g=>w.heap.size ≤ g∧g < w'.heap.size) n u l∧Below w.heap.size w w'
def encR (q:TF × Value):List Value:=[.int .i64 q.1.kind,.int .i64 q.1.int,.int .i64 q.1.gen,.string q.1.name,.string q.1.func,.int .i64 q.1.arity,q.2,.string q.1.bytes,.int .i64 q.1.bits]
abbrev C9f (f:TF) (v:Value):Array Value:=#[.int .i64 f.kind,.int .i64 f.int,.int .i64 f.gen,.string f.name,.string f.func,.int .i64 f.arity,v,.string f.bytes,.int .i64 f.bits]
section
variable {w:World} {B z a b:Nat} {c:Int} {σ:St} {S:Nat→Prop}
def Get0 (f:TF) (w:World) (e:Ending) (w':World):Prop:=e = .returned (aggV f nilV)∧Below w.heap.size w w'
theorem Get0.any {f:TF} {w w':World} {e:Ending} (h:Get0 f w e w') {n:Nat} {l:List (Tm n)} (hl:l = []):GetP f l w e w':=by
 subst hl;exact ⟨nilV,h.1,ItemsIn.nil_any (by unfold maxLen;omega),h.2⟩
end
section
variable {w:World} {B z a b:Nat} {c:Int} {σ:St} {S:Nat→Prop}
end
end Go.Proofs.YtpnlnbolhkcnjaaGreat.hp
