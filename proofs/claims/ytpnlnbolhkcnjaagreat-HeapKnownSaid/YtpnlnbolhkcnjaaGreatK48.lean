/- HtB,HtD. No condition beyond theirs. -/
import Derived.Test.YtpnlnbolhkcnjaaGreatK32
set_option linter.unusedSimpArgs false
set_option linter.unusedVariables false
set_option maxHeartbeats 4000000
set_option maxRecDepth 100000
namespace Go.Proofs.YtpnlnbolhkcnjaaGreat.hp
open Go.RowKit mem words rec tm
def sa:ByteArray:=⟨#[97]⟩
def sb:ByteArray:=⟨#[98]⟩
def zeros:ByteArray:=⟨(List.replicate 75 (0:UInt8)).toArray⟩
def fA:TF:=⟨2,0,0,sa,e0,0,e0,0⟩
def tA:Tm 1:=Tm.mk fA []
def lL:List (Tm 1):=[tK 1 1,tK 1 2,tK 8 0]
def lP:List (Tm 1):=[tA,tK 1 1152921504606846976]
def tL:Tm 2:=Tm.mk (fK 9 0) lL
def tP:Tm 2:=Tm.mk (fK 7 0) lP
def stK (O:List (List Int)) (E:List (Int × ByteArray × Int)) (g t:Int):St:=⟨O,[sa,sb],E,g,t⟩
def oL:List (List Int):=[[35,11],[19,1]]
def oP:List (List Int):=oL ++ [[hdW 6 1,1152921504606846976],[hdW 1 2,7,ptrW 2 false 4]]
def oB:List (List Int):=oP ++ [[hdW 8 3,smallW 1,smallW 0,smallW 600]]
def oC:List (List Int):=oB ++ [[hdW 8 3,smallW 1,smallW 8,smallW 520]]
def oD:List (List Int):=oC ++ [[hdW 7 9,smallW 512,0,0,0,0,0,0,0,0]]
def σA:St:=stK [] [] 0 0
def σL:St:=stK oL [] 0 0
def σP:St:=stK oP [] 0 0
def σB:St:=stK oB [(1,zeros,1)] 1 75
def σC:St:=stK oC [(1,zeros,2)] 1 75
def σD:St:=stK oD [(1,zeros,2)] 1 75
theorem putK5:putO 1 (tK 1 5) σA = (83,σA):=by kernel_rfl
theorem putKA:putO 1 tA σA = (7,σA):=by kernel_rfl
theorem putK0:putO 1 (tK 8 0) σA = (11,σA):=by kernel_rfl
theorem putKL:putO 2 tL σA = (17,σL):=by kernel_rfl
theorem putKP:putO 2 tP σL = (ptrW 2 false 6,σP):=by kernel_rfl
theorem putKB:bitsO zeros 600 σP = (ptrW 2 false 9,σB):=by kernel_rfl
theorem putKC:boxO 8 [smallW 1,smallW 8,smallW 520] { σB with E:=upE σB.E 0 1 } = (ptrW 2 false 13,σC):=by kernel_rfl
theorem putKD:bitsO (cutS zeros 512) 512 σC = (ptrW 2 false 17,σD):=by kernel_rfl
theorem len_A:σA.Y.length = 0:=rfl
theorem len_L:σL.Y.length = 4:=rfl
theorem len_B:σB.Y.length = 13:=rfl
theorem len_C:σC.Y.length = 17:=rfl
theorem len_D:σD.Y.length = 27:=rfl
theorem bits600:BitsOk zeros 600:=by
 refine ⟨?_,?_,?_,?_⟩ <;> first | rfl | decide | (right;rfl) | (left;rfl)
theorem cap_of {O:List (List Int)} {E:List (Int × ByteArray × Int)} {g t:Int} {k:Nat} {m:Int} (h1:(O.flatten.length:Int) + m ≤ 500000) (h2:2 + 2 * k ≤ 200000) (h3:0 ≤ g) (h4:g + k ≤ 500000) (h5:0 ≤ t) (h6:t + 2048 * k ≤ 10000000000) (h7:∀ x ∈ E,0 ≤ x.2.2∧x.2.2 + k ≤ 500000∧1 ≤ x.1∧x.1 ≤ g):Cap (stK O E g t) k m :=
 ⟨h1,h2,h3,h4,h5,h6,h7⟩
theorem okK (k n:Int) (h:k = 1∨k = 8∧n = 0):okT (tK k n) = true:=ok0 k n h
theorem okA:okT tA = true:=by
 show (inB 2 0 10 && (okF fA 0 0 && bareOK fA 0)) = true;rw [show okF fA 0 0 = true from by kernel_rfl,show inB 2 0 10 = true from by kernel_rfl];simp [bareOK,bareF,zeroF,fA,eqB_t]
theorem valid_1 {t:Tm 1} (h:okT t = true) (hi:t.items = []) (hw:wholeT t ≤ 2000):validT t = true:=by
 unfold validT formedT;rw [h,hi];simp [formedL,hw]
theorem valid_5:validT (tK 1 5) = true:=valid_1 (okK _ _ (.inl rfl)) rfl (by decide)
theorem valid_A:validT tA = true:=valid_1 okA rfl (by decide)
theorem valid_0:validT (tK 8 0) = true:=valid_1 (okK _ _ (.inr ⟨rfl,rfl⟩)) rfl (by decide)
theorem valid_L:validT tL = true:=by
 have h1:okT tL = true:=by
  show (inB 9 0 10 && (okF (fK 9 0) 3 8 && bareOK (fK 9 0) 3)) = true;simp [fK,inB,okF,bareOK,bareF,zeroF,eqB_t]
 have h2:formedL 1 lL = true:=by
  simp [formedL,lL,ok0]
 have h3:wholeT tL = 5:=by rfl
 unfold validT formedT;rw [h1,show formedL 1 tL.items = true from h2,h3];rfl
theorem valid_P:validT tP = true:=by
 have h1:okT tP = true:=by
  show (inB 7 0 10 && (okF (fK 7 0) 2 1 && bareOK (fK 7 0) 2)) = true;simp [fK,inB,okF,bareOK,bareF,zeroF,eqB_t]
 have h2:formedL 1 lP = true:=by
  simp [formedL,lP,ok0,okA]
 have h3:wholeT tP = 3:=by rfl
 unfold validT formedT;rw [h1,show formedL 1 tP.items = true from h2,h3];rfl
def x1:List Int:=[35,11]
def x2:List Int:=[19,1]
def x3:List Int:=[hdW 6 1,1152921504606846976]
def x4:List Int:=[hdW 1 2,7,ptrW 2 false 4]
def x5:List Int:=[hdW 8 3,smallW 1,smallW 0,smallW 600]
def x6:List Int:=[hdW 8 3,smallW 1,smallW 8,smallW 520]
def x7:List Int:=[hdW 7 9,smallW 512,0,0,0,0,0,0,0,0]
theorem pt_of {σ:St} {v:Int} {i:Nat} {x:List Int} (h1:pOk v = true) (h2:pOld v = false) (h3:(pIx v).toNat = i) (h4:cl.At σ.O i x) (h5:x.headD 0 % 4 = 0↔v % 4 = 2):cl.Pt (Kb σ) v x:=by
 refine ⟨h1,?_,h5⟩;rw [h2,h3];exact h4
theorem at_D4:cl.At oD 4 x3:=.inr ⟨by decide,.inr ⟨by decide,.inl ⟨rfl,rfl⟩⟩⟩
theorem at_D6:cl.At oD 6 x4:=.inr ⟨by decide,.inr ⟨by decide,.inr ⟨by decide,.inl ⟨rfl,rfl⟩⟩⟩⟩
theorem at_D0:cl.At oD 0 x1:=.inl ⟨rfl,rfl⟩
theorem at_B9:cl.At oB 9 x5:=.inr ⟨by decide,.inr ⟨by decide,.inr ⟨by decide,.inr ⟨by decide,.inl ⟨rfl,rfl⟩⟩⟩⟩⟩
theorem at_C9:cl.At oC 9 x5:=.inr ⟨by decide,.inr ⟨by decide,.inr ⟨by decide,.inr ⟨by decide,.inl ⟨rfl,rfl⟩⟩⟩⟩⟩
theorem pt_D4:cl.Pt (Kb σD) (ptrW 2 false 4) x3:=pt_of (by kernel_rfl) (by kernel_rfl) (by kernel_rfl) at_D4 (by decide)
theorem pt_D6:cl.Pt (Kb σD) (ptrW 2 false 6) x4:=pt_of (by kernel_rfl) (by kernel_rfl) (by kernel_rfl) at_D6 (by decide)
theorem pt_D0:cl.Pt (Kb σD) 1 x1:=pt_of (by kernel_rfl) (by kernel_rfl) (by kernel_rfl) at_D0 (by decide)
theorem pt_B9:cl.Pt (Kb σB) (ptrW 2 false 9) x5:=pt_of (by kernel_rfl) (by kernel_rfl) (by kernel_rfl) at_B9 (by decide)
theorem pt_C9:cl.Pt (Kb σC) (ptrW 2 false 9) x5:=pt_of (by kernel_rfl) (by kernel_rfl) (by kernel_rfl) at_C9 (by decide)
theorem mem_D {x:List Int} (h:x ∈ oD):x = x1∨x = x2∨x = x3∨x = x4∨x = x5∨x = x6∨x = x7:=by
 simpa [oD,oC,oB,oP,oL,x1,x2,x3,x4,x5,x6,x7,or_assoc] using h
theorem at_7 {x:List Int}:¬ cl.At oD 7 x:=by
 have e:oD = [x1,x2,x3,x4,x5,x6,x7]:=rfl;rw [e];simp [cl.At,x1,x2,x3,x4,x5,x6,x7]
theorem odd_no:¬ cl.Tm (Kb σD) (ptrW 1 false 7):=by
 rintro (h | h | h | ⟨x,h1,h2,h3⟩)
 ·exact absurd h (by decide)
 ·exact absurd h (by decide)
 ·exact absurd h (by decide)
 ·rw [show pOld (ptrW 1 false 7) = false from by kernel_rfl,show (pIx (ptrW 1 false 7)).toNat = 7 from by kernel_rfl] at h2;exact at_7 h2
theorem ok_x1:cl.okO x1 = true:=by kernel_rfl
theorem ok_x2:cl.okO x2 = true:=by kernel_rfl
theorem ok_x3:cl.okO x3 = true:=by kernel_rfl
theorem ok_x4:cl.okO x4 = true:=by kernel_rfl
theorem ok_x5:cl.okO x5 = true:=by kernel_rfl
theorem ok_x6:cl.okO x6 = true:=by kernel_rfl
theorem ok_x7:cl.okO x7 = true:=by kernel_rfl
theorem fol_x1:cl.fol x1 = [35,11]:=by kernel_rfl
theorem fol_x2:cl.fol x2 = [19,1]:=by kernel_rfl
theorem fol_x3:cl.fol x3 = []:=by kernel_rfl
theorem fol_x4:cl.fol x4 = [7,ptrW 2 false 4]:=by kernel_rfl
theorem fol_x5:cl.fol x5 = []:=by kernel_rfl
theorem fol_x6:cl.fol x6 = []:=by kernel_rfl
theorem fol_x7:cl.fol x7 = []:=by kernel_rfl
theorem sh_D (hp:∀ o ∈ oD,cl.IsObj o):cl.Sh ⟨σD.Y,[],0⟩ (Kb σD) where
 y:=⟨rfl,hp⟩
 o:=⟨rfl,fun o ho=>by simp [Kb] at ho⟩
 ly:=by decide
 lo:=by decide
 m0:=by decide
 m1:=by decide
 m2:=fun _=>⟨x1,at_D0⟩
 ok:=fun b i x h=>by
  cases b with
  | true=>exact absurd h (by simp [Kb,cl.Bk.s,cl.At])
  | false =>
   have key:cl.okO x = true∧∀ v ∈ cl.fol x,cl.Tm (Kb σD) v:=by
    rcases mem_D (cl.At.mem h) with rfl | rfl | rfl | rfl | rfl | rfl | rfl
    ·refine ⟨ok_x1,fun v hv=>?_⟩;rw [fol_x1] at hv;simp only [List.mem_cons,List.not_mem_nil,or_false] at hv
     rcases hv with rfl | rfl
     ·exact .inl (by decide)
     ·exact .inr (.inr (.inl rfl))
    ·refine ⟨ok_x2,fun v hv=>?_⟩;rw [fol_x2] at hv;simp only [List.mem_cons,List.not_mem_nil,or_false] at hv
     rcases hv with rfl | rfl
     ·exact .inl (by decide)
     ·exact .inr (.inr (.inr ⟨x1,pt_D0⟩))
    ·exact ⟨ok_x3,fun v hv=>by rw [fol_x3] at hv;cases hv⟩
    ·refine ⟨ok_x4,fun v hv=>?_⟩;rw [fol_x4] at hv;simp only [List.mem_cons,List.not_mem_nil,or_false] at hv
     rcases hv with rfl | rfl
     ·exact .inr (.inl (by decide))
     ·exact .inr (.inr (.inr ⟨x3,pt_D4⟩))
    ·exact ⟨ok_x5,fun v hv=>by rw [fol_x5] at hv;cases hv⟩
    ·exact ⟨ok_x6,fun v hv=>by rw [fol_x6] at hv;cases hv⟩
    ·exact ⟨ok_x7,fun v hv=>by rw [fol_x7] at hv;cases hv⟩
   exact ⟨key.1,fun v hv=>⟨key.2 v hv,fun _ _=>⟨rfl,fun q=>by have:(i:Int) < 0:=q;omega⟩⟩⟩
end Go.Proofs.YtpnlnbolhkcnjaaGreat.hp
