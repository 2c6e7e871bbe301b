/- HrG,HrH. No condition beyond theirs. -/
import Derived.Test.YtpnlnbolhkcnjaaGreatK29
set_option linter.unusedSimpArgs false
set_option linter.unusedVariables false
set_option maxHeartbeats 4000000
set_option maxRecDepth 100000
namespace Go.Proofs.YtpnlnbolhkcnjaaGreat.hp
open Go.RowKit mem words rec tm
abbrev e0:ByteArray:=⟨#[]⟩
def Kb (σ:St):cl.Bk:=⟨σ.O,[]⟩
def nameO (σ:St) (v:Int):ByteArray:=names.nameS σ.N (aoN v)
def sgn (y:Int):Int:=if 9223372036854775808 ≤ y then y - 18446744073709551616 else y
structure BitsOk (s:ByteArray) (n:Int):Prop where
 n0:0 ≤ n
 n1:n ≤ 16384
 sz:(s.size:Int) = (n + 7) / 8
 last:n % 8 = 0∨lastByte s % 2 ^ (8 - (n % 8).toNat) = 0
def RdX (σ:St) (k:Int) (l:List Int) (f:TF) (ws:List Int):Prop :=
 (k = 1∧l = ws∧f = ⟨7,0,0,e0,e0,0,e0,0⟩) ∨
 (k = 2∧∃ a g i r,l = a :: g :: i :: r :: ws∧f = ⟨4,soN i,soN g,nameO σ a,e0,soN r,e0,0⟩) ∨
 (k = 3∧ws = []∧∃ a b r,l = [a,b,r]∧f = ⟨5,0,0,nameO σ a,nameO σ b,soN r,e0,0⟩) ∨
 (k = 4∧ws = []∧∃ a g i,l = [a,g,i]∧f = ⟨6,soN i,soN g,nameO σ a,e0,0,e0,0⟩) ∨
 (k = 5∧ws = []∧∃ a g i,l = [a,g,i]∧f = ⟨3,soN i,soN g,nameO σ a,e0,0,e0,0⟩) ∨
 (k = 6∧ws = []∧∃ y,l = [y]∧f = ⟨1,sgn y,0,e0,e0,0,e0,0⟩) ∨
 (k = 7∧ws = []∧∃ s n,l = smallW n :: packI s s.size ((n + 63) / 64).toNat∧BitsOk s n∧n ≤ 512∧f = ⟨10,0,0,e0,e0,0,s,n⟩) ∨
 (k = 8∧ws = []∧∃ id s n c,l = [smallW id,smallW 0,smallW n]∧(id,s,c) ∈ σ.E∧1 ≤ id∧id ≤ 500000∧BitsOk s n∧512 < n∧f = ⟨10,0,0,e0,e0,0,s,n⟩)
structure Ext (σ σ':St):Prop where
 o:∃ r,σ'.O = σ.O ++ r
 n:∃ r,σ'.N = σ.N ++ r
 e:∀ x ∈ σ.E,∃ c,(x.1,x.2.1,c) ∈ σ'.E
theorem Ext.refl (σ:St):Ext σ σ:=⟨⟨[],by simp⟩,⟨[],by simp⟩,fun x hx=>⟨x.2.2,hx⟩⟩
theorem Ext.trans {a b c:St} (h:Ext a b) (k:Ext b c):Ext a c:=by
 obtain ⟨⟨r,hr⟩,⟨s,hs⟩,h3⟩:=h;obtain ⟨⟨r',hr'⟩,⟨s',hs'⟩,k3⟩:=k;refine ⟨⟨r ++ r',by rw [hr',hr,List.append_assoc]⟩,⟨s ++ s',by rw [hs',hs,List.append_assoc]⟩,fun x hx=>?_⟩;obtain ⟨c,hc⟩:=h3 x hx;exact k3 (x.1,x.2.1,c) hc
theorem Pt.ext {σ σ':St} (h:Ext σ σ') {v:Int} {x:List Int} (hp:cl.Pt (Kb σ) v x):cl.Pt (Kb σ') v x:=by
 obtain ⟨r,hr⟩:=h.o;obtain ⟨a,b,c⟩:=hp;refine ⟨a,?_,c⟩;cases ho:pOld v with
 | true =>
  rw [ho] at b;exact b.elim
 | false =>
  rw [ho] at b;show cl.At σ'.O _ x;rw [hr];exact cl.At.left b
theorem so_small {n:Int} (h:smallOk n = true):soOk (smallW n) = true∧soN (smallW n) = n:=by
 have e:smallW n = 16 * (n % 1152921504606846976) + 3:=by unfold smallW;rw [if_pos h]
 simp only [smallOk,decide_eq_true_eq] at h;have e1:soOk (smallW n) = true:=by
  rw [e];simp only [soOk,decide_eq_true_eq];omega
 refine ⟨e1,?_⟩;unfold soN;rw [if_pos e1,e]
 split <;> omega
theorem RdX.kind {σ:St} {k:Int} {l:List Int} {f:TF} {ws:List Int} (h:RdX σ k l f ws):1 ≤ k∧k ≤ 8:=by
 rcases h with h | h | h | h | h | h | h | h <;> (have:=h.1;omega)
end Go.Proofs.YtpnlnbolhkcnjaaGreat.hp
