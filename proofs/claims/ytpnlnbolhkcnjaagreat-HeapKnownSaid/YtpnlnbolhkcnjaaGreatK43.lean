/- CqA,HsC. No condition beyond theirs. -/
import Derived.Test.YtpnlnbolhkcnjaaGreatK42
import Derived.RangeFuncNested
import Derived.RangeFuncBound
import Derived.RangeFuncCalls
import Derived.RangeFuncLeaves
import Derived.Shelf.Abstract
import Derived.Shelf.RegionOpen
import Derived.OwnWalkIn
import Derived.TacticsInMore
import Derived.LoopNIn
import Derived.LoopIn
set_option linter.unusedSimpArgs false
set_option linter.unusedVariables false
set_option maxHeartbeats 4000000
set_option maxRecDepth 100000
namespace Go.Proofs.YtpnlnbolhkcnjaaGreat
namespace cl
open Go.RowKit mem words
def Gives (F:Fence) (n:Nat) (P:Program) (g:Nat) (lb:Array Value) (encs:Nat→Array Value) (N:Nat) (Rd:Nat→World→Prop) (Kp:World→World→Prop):Prop :=
 ∀ (l:Nat) (J Jx:Nat→World→Prop) (W:World),(∀ i V,J i V→Rd i V)→(∀ i V V',J i V→V.grownBy V' none→J i V')→(∀ i V V',Jx i V→V.grownBy V' none→Jx i V') →
  (∀ i V,J i V→i < N→YieldAt F (n - 1) P l (encs i) V fun e V'=>(e = .returned (.bool true)∧J (i + 1) V'∧Kp V V')∨(e = .returned (.bool false)∧Jx (i + 1) V')) →
  J 0 W→CallsIn F n P g (#[.func (.yield l) #[] #[]] ++ lb) W fun e V=>(∃ v,e = .returned v)∧(J N V∨∃ i,Jx i V)
def roundOut (B:Nat) (Kp:World→World→Prop) (I:Nat→World→Prop) (Ix:Code→Nat→World→Prop) (i:Nat) (W:World):Exit→Act→World→Prop
 | .normal,_,W'=>KeepsFrom B W W'∧Kp W W'∧I i W'
 | .ret,_,W'=>KeepsFrom B W W'∧Ix .ret i W'
 | .exit id,_,W'=>KeepsFrom B W W'∧Ix (.exit id) i W'
 | .goto t,_,W'=>KeepsFrom B W W'∧Ix (.goto t) i W'
 | .panic _,_,_=>False
 | .outgrown,_,_=>False
theorem own_more {B:Nat} {I:Nat→World→Prop} (h:OwnFrom B I) {i:Nat} {V V':World} (hi:I i V) (hg:V.grownBy V' none):I i V':=h i V V' none hi hg (fun r e=>by cases e)
def Carried (z:Nat) (r:Loop) (W:World):Prop:=W.heap[z + 1]? = some (.loop r)∧W.heap[z]? = some (.deferred (some []))
theorem Carried.lt {z:Nat} {r:Loop} {W:World} (h:Carried z r W):z + 1 < W.heap.size:=(Array.getElem?_eq_some_iff.1 h.1).1
theorem Carried.grown {z:Nat} {r:Loop} {V V':World} (h:Carried z r V) (hg:V.grownBy V' none):Carried z r V' :=
 ⟨(hg.block _ h.lt (by simp)).trans h.1,(hg.block _ (by have:=h.lt;omega) (by simp)).trans h.2⟩
theorem Carried.put {z:Nat} {r:Loop} {V:World} (h:Carried z r V) (r':Loop):Carried z r' (V.putObj (z + 1) (.loop r')) :=
 ⟨World.putObj_heap_same h.lt,(World.putObj_heap_other (by omega)).trans h.2⟩
theorem Carried.keep {z B:Nat} {r:Loop} {V V':World} (h:Carried z r V) (hB:B ≤ z) (hk:KeepsFrom B V V'):Carried z r V' :=
 ⟨hk.same _ _ (by omega) h.1 rfl,hk.same _ _ hB h.2 rfl⟩
theorem range_seq {F:Fence} {n:Nat} {P:Program} {g:Operand} {ps:Array Tmp} {assign body:Code} {Q:Exit→Act→World→Prop} {a:Act} {w:World}
 (hro:F.round = none) (h1:1 ≤ n) {gf:Nat} {lb:Array Value} (hg:a.eval g = .func (.func gf) #[] lb) (hFg:F.fn gf) (eg:∀ args w,(callFunc gf args).run P w = .ok (.enter gf args) w)
 {encs:Nat→Array Value} {N:Nat} {Rd:Nat→World→Prop} {Kp:World→World→Prop} (hseq:Gives F (n - 1) P gf lb encs N Rd Kp)
 (hKt:∀ {A B C:World},Kp A B→Kp B C→Kp A C) (hKb:∀ (W:World) (l:Nat) (o o':Obj),W.heap[l]? = some o→o.isCells = false→Kp W (W.putObj l o')) (hps:∀ i,(encs i).size = ps.size)
 (I:Nat→World→Prop) (Ix:Code→Nat→World→Prop) (hI:OwnFrom w.heap.size I) (hIx:∀ c,OwnFrom w.heap.size (Ix c)) (hRd:∀ i V,I i V→Rd i V) (h0:I 0 w)
 (hround:∀ (l i:Nat) (W W':World),I i W'→i < N →
   assign.wpIn (F.inRound l) (n - 1 - 1) P (Exit.then (fun a₁ w₁=>w₁ = W∧body.wpIn (F.inRound l) (n - 1 - 1) P (roundOut w.heap.size Kp I Ix (i + 1) W') a₁ W') (fun _ _ _=>False)) { tmps:=(ps.zip (encs i)).foldl (fun t (p,v)=>t.setIfInBounds p v) a.tmps,defers:=[] } W)
 (hdone:∀ (D:Nat) (W:World),w.heap.size ≤ D→I N W→W.heap[D]? = some (.deferred (some []))→Q .normal { a with defers:={ target:=.collected D,args:=#[] } :: a.defers } W)
 (hstop:∀ (D:Nat) (c:Code) (i:Nat) (W:World),w.heap.size ≤ D→Ix c i W→W.heap[D]? = some (.deferred (some []))→c.wpIn F n P Q { a with defers:={ target:=.collected D,args:=#[] } :: a.defers } W) :
 (Code.rangeFunc g ps assign body).wpIn F n P Q a w:=by
 refine wpIn_rangeFunc fun fn hfn=>?_;rw [hro];obtain ⟨rec,hrec⟩:∃ rec:LoopState→Option Code→Loop,rec = fun st pe=>{ state:=st,pending:=pe,fn,tmps:=a.tmps,params:=ps,assign,body,defers:=w.heap.size }:=⟨_,rfl⟩
 obtain ⟨z,hz⟩:∃ z,z = w.heap.size:=⟨_,rfl⟩;obtain ⟨W1,hW1⟩:∃ W1,W1 = (w.alloc (.deferred (some []))).alloc (.loop (rec .ready none)):=⟨_,rfl⟩;have hb1:Carried z (rec .ready none) W1:=by
  subst hz;rw [hW1];have:=World.alloc_heap_new (w.alloc (.deferred (some []))) (.loop (rec .ready none));rw [World.size_alloc] at this;exact ⟨this,(Below.heap_alloc _ _ _ (by simp)).trans (World.alloc_heap_new w _)⟩
 have hi1:I 0 W1:=by rw [hW1];exact hI.alloc _ (hI.alloc _ h0)
 have ends:∀ (jump:Option Code) (V:World),Carried z (rec .busy none) V→(Instr.endRound (z + 1) jump).run P V = .ok (.bool jump.isNone) (V.putObj (z + 1) (.loop (rec (if jump.isNone then .ready else .done) jump))):=fun jump V hb=>by
  have:=run_endRound (P:=P) jump hb.1;rw [hrec] at this ⊢;exact this
 refine ⟨z + 1,[{ target:=.collected z,args:=#[] }],W1,{ target:=.fn (.func gf) lb,args:=#[.func (.yield (z + 1)) #[] #[]] },W1,gf,#[.func (.yield (z + 1)) #[] #[]] ++ lb,W1,?_,?_,?_,?_,fun _=>h1,?_⟩
 ·subst hz;rw [hW1,hrec];exact run_enterLoop_outer _ _ _ _ _
 ·simp only [resolve,hg];simp [go_sem]
 ·intro f' hf';simp [Target.leads] at hf';subst hf';exact hFg
 ·simp [invoke,go_sem,eg]
 ·refine (hseq (z + 1) (fun i V=>I i V∧Carried z (rec .ready none) V) (fun i V=>∃ c,Ix c i V∧Carried z (rec .done (some c)) V) W1 (fun i V h=>hRd i V h.1)
   (fun i V V' h hg=>⟨own_more hI h.1 hg,h.2.grown hg⟩) (fun i V V' h hg=>by obtain ⟨c,hc,hb⟩:=h;exact ⟨c,own_more (hIx c) hc hg,hb.grown hg⟩) ?_ ⟨hi1,hb1⟩).mono ?_
  ·rintro i V ⟨hi,hb⟩ hlt;have hy:=run_yield (P:=P) (args:=encs i) hb.1 (by rw [hrec];exact hps i);rw [hrec] at hy;have hbb:Carried z (rec .busy none) (V.putObj (z + 1) (.loop { rec .ready none with state:=.busy })):=by
    have:=hb.put (rec .busy none);rw [hrec] at this ⊢;exact this
   refine ⟨fn,_,assign,body,hy,roundIn_of_wpIn hfn (wpIn_mono (hround _ i V _ (hI.putObj (.loop { rec .ready none with state:=.busy }) hi (by omega) hb.1 rfl) hlt) ?_)⟩;rintro e0 a0 V0 hp0;cases e0 with
   | normal=>?_
   | _=>exact hp0.elim
   obtain ⟨hv0,hbody⟩:=hp0;rw [hv0];refine ⟨_,run_beginRound hb.1 (by rw [hrec]),wpIn_mono hbody ?_⟩;have left:∀ (c:Code) (V3:World),KeepsFrom w.heap.size (V.putObj (z + 1) (.loop { rec .ready none with state:=.busy })) V3→Ix c (i + 1) V3→∃ v w',(Instr.endRound (z + 1) (some c)).run P V3 = .ok v w'∧(((Ending.returned v = .returned (.bool true))∧(I (i + 1) w'∧Carried z (rec .ready none) w')∧Kp V w')∨((Ending.returned v = .returned (.bool false))∧∃ c,Ix c (i + 1) w'∧Carried z (rec .done (some c)) w')):=fun c V3 hk hx=>by
    have hb3:=hbb.keep (by omega) hk;exact ⟨_,_,ends (some c) V3 hb3,.inr ⟨rfl,c,(hIx c).putObj _ hx (by omega) hb3.1 rfl,hb3.put _⟩⟩
   rintro e a3 V3 hp;cases e with
   | normal =>
    obtain ⟨hk,hkp,hi3⟩:=hp;have hb3:=hbb.keep (by omega) hk;exact ⟨_,_,ends none V3 hb3,.inl ⟨rfl,⟨hI.putObj _ hi3 (by omega) hb3.1 rfl,hb3.put _⟩,hKt (hKt (hKb _ _ _ _ hb.1 rfl) hkp) (hKb _ _ _ _ hb3.1 rfl)⟩⟩
   | ret=>exact left .ret V3 hp.1 hp.2
   | exit id=>exact left (.exit id) V3 hp.1 hp.2
   | goto t=>exact left (.goto t) V3 hp.1 hp.2
   | panic ch=>exact hp.elim
   | outgrown=>exact hp.elim
  ·have lets:∀ {st pe} {V:World},st ≠ .busy→Carried z (rec st pe) V→(Instr.endLoop (z + 1)).run P V = .ok pe (V.putObj (z + 1) (.loop (rec .exhausted pe))):=fun {st pe V} hne hb=>by
    have:=run_endLoop (P:=P) hb.1 (by rw [hrec];exact hne);rw [hrec] at this ⊢;exact this
   subst hz
   rintro e V ⟨⟨v,rfl⟩,⟨hi,hb⟩ | ⟨i,c,hi,hb⟩⟩
   ·exact ⟨none,_,lets (by simp) hb,hdone _ _ (Nat.le_refl _) (hI.putObj _ hi (by omega) hb.1 rfl) (hb.put _).2⟩
   ·exact ⟨some c,_,lets (by simp) hb,hstop _ c i _ (Nat.le_refl _) ((hIx c).putObj _ hi (by omega) hb.1 rfl) (hb.put _).2⟩
end cl
namespace hp
open Go.RowKit mem words rec tm
def EmR (bm m:Nat) (_:Nat) (V:World):Prop:=V.cell? ⟨bm,0,none⟩ = some (.map (some m))∧MapR (Value.int .i64) V m []
theorem EmR.below {bm m:Nat} {V V':World} (h:EmR bm m 0 V) (hl:bm < V.heap.size) (hb:Below V.heap.size V V') (i:Nat):EmR bm m i V' :=
 ⟨(World.cell?_of_block (w:=V) (w':=V') (a:=⟨bm,0,none⟩) (hb.block bm hl)).trans h.1,h.2.same (hb.block m h.2.lt)⟩
end hp
end Go.Proofs.YtpnlnbolhkcnjaaGreat
