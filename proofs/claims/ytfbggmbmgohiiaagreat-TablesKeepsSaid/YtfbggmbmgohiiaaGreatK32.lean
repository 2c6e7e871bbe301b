/- Texts of this seat, one behind the other: TbT. No condition beyond theirs. -/
import Derived.Test.YtfbggmbmgohiiaaGreatK31
set_option linter.unusedSimpArgs false
set_option linter.unusedVariables false
set_option maxHeartbeats 4000000
set_option maxRecDepth 100000
namespace Go.Proofs.YtfbggmbmgohiiaaGreat.tb
open Go.RowKit mem rec tm names
noncomputable def keyAt {N:Nat} (hs:Bool) (rows:List (RowE N)) (r:Tm (N + 1)) (hh:Int):Nat:=rows.findIdx (fun x=>!befB hs x.k r x.h hh)
def Mono {α:Type} (p:α→Bool) (l:List α):Prop:=∀ i j,(hj:j < l.length)→(hi:i < j)→p l[j] = true→p (l[i]'(by omega)) = true
theorem keyAt_eq {N:Nat} {hs:Bool} {rows:List (RowE N)} {r:Tm (N + 1)} {hh:Int} (hm:Mono (fun x=>befB hs x.k r x.h hh) rows) {k:Nat} (hk:k ≤ rows.length) (h1:∀ (h:0 < k),befB hs (rows[k - 1]'(by omega)).k r (rows[k - 1]'(by omega)).h hh = true) (h2:∀ (h:k < rows.length),befB hs rows[k].k r rows[k].h hh = false):keyAt hs rows r hh = k:=by
 unfold keyAt
 by_cases hlt:k < rows.length
 ·rw [List.findIdx_eq hlt]
  refine ⟨by rw [h2 hlt];rfl,fun j hj=>?_⟩
  have:=h1 (by omega)
  by_cases e:j = k - 1
  ·subst e;rw [this];rfl
  ·have:=hm j (k - 1) (by omega) (by omega) this
   dsimp only at this
   rw [this];rfl
 ·obtain rfl:k = rows.length:=by omega
  rw [List.findIdx_eq_length]
  intro x hx
  obtain ⟨j,hj,rfl⟩:=List.mem_iff_getElem.1 hx
  have:=h1 (by omega)
  by_cases e:j = rows.length - 1
  ·subst e;rw [this];rfl
  ·have:=hm j (rows.length - 1) (by omega) (by omega) this
   dsimp only at this
   rw [this];rfl
def SrchI (n:Nat) (p:Nat→Bool) (w:World) (m:Nat) (iv jv:Value) (wr:World):Prop:=∃ i j:Nat,iv = .int .i64 (i:Int)∧jv = .int .i64 (j:Int)∧i ≤ j∧j ≤ n∧m = j - i∧(0 < i→p (i - 1) = true)∧(j < n→p j = false)∧Below w.heap.size w wr
section
variable {N:Nat} {w w':World} {B:Nat} {F:Nat→Prop} {t:TabE N}
theorem search87 (h:TabAt w B F t) (hF:∀ g,F g→g < w.heap.size) {r:Tm (N + 1)} {u:Value} {zt zk zh B2:Nat} {hh:Int} (hB:B2 ≤ w.heap.size) (hI:ItemsAt w B2 N u r.items) (hn:300 * (nodesT r:Int) ≤ 1000000000000)
 (hzt:w.heap[zt]? = some (.cells #[.pointer (some ⟨t.b,0,none⟩)] 89)) (hzk:w.heap[zk]? = some (cells9 r.f u)) (hzh:w.heap[zh]? = some (.cells #[.int .u32 hh] 28)) (hnr:∀ x ∈ t.rows,300 * (nodesT x.k:Int) ≤ 1000000000000) (hlen:t.rows.length ≤ 1000000) (hm:Mono (fun x=>befB t.hs x.k r x.h hh) t.rows) :
 Calls Tryz.prog 87 #[.int .i64 t.rows.length,.func (.func 88) #[] #[.pointer (some ⟨zt,0,none⟩),.pointer (some ⟨zk,0,none⟩),.pointer (some ⟨zh,0,none⟩)]] w fun e w'=>e = .returned (.int .i64 (keyAt t.hs t.rows r hh))∧Below w.heap.size w w':=by
 have HC:=Lib.hid (fun (W:World) (hW:Below w.heap.size w W) (i:Nat) (hi:i < t.rows.length)=>clos88 (h.below hW hF) (fun g hg=>Nat.lt_of_lt_of_le (hF g hg) hW.size) (Nat.le_trans hB hW.size) (hI.below hW hB) hn ((hW.block _ (Array.getElem?_eq_some_iff.1 hzt).1).trans hzt) ((hW.block _ (Array.getElem?_eq_some_iff.1 hzk).1).trans hzk) ((hW.block _ (Array.getElem?_eq_some_iff.1 hzh).1).trans hzh) hi (hnr _ (List.getElem_mem hi)))
 have HK:=Lib.hid (fun (k:Nat) (hk:k ≤ t.rows.length) h1 h2=>keyAt_eq hm hk h1 h2)
 clear h hF hB hI hn hzt hzk hzh hnr hm
 generalize keyAt t.hs t.rows r hh = ka at *
 obtain ⟨p,hp⟩:∃ p:Nat→Bool,p = fun i=>(t.rows[i]?).elim false (fun x=>befB t.hs x.k r x.h hh):=⟨_,rfl⟩
 have hpi:∀ i (hi:i < t.rows.length),p i = befB t.hs (t.rows[i]).k r (t.rows[i]).h hh:=fun i hi=>by rw [hp];dsimp only;rw [List.getElem?_eq_getElem hi];rfl
 have HC2:Hid (∀ W,Below w.heap.size w W→∀ i:Nat,i < t.rows.length→Calls Tryz.prog 88 #[.int .i64 i,.pointer (some ⟨zt,0,none⟩),.pointer (some ⟨zk,0,none⟩),.pointer (some ⟨zh,0,none⟩)] W (BPost (!p i) W)):=Lib.hid (fun W hW i hi=>by rw [hpi i hi];exact HC.out W hW i hi)
 have HK2:Hid (∀ k,k ≤ t.rows.length→(0 < k→p (k - 1) = true)→(k < t.rows.length→p k = false)→ka = k):=Lib.hid (fun k hk h1 h2=>HK.out k hk (fun h=>by rw [← hpi (k - 1) (by omega)];exact h1 h) (fun h=>by rw [← hpi k h];exact h2 h))
 clear HC HK hp hpi
 generalize t.rows.length = n at *
 have H00:Hid (SrchI n p w n (.int .i64 0) (.int .i64 n) w):=Lib.hid ⟨0,n,rfl,rfl,Nat.zero_le _,Nat.le_refl _,rfl,fun h=>absurd h (Nat.lt_irrefl 0),fun h=>absurd h (Nat.lt_irrefl n),Below.refl _ _⟩
 go_enter Tryz.func87,Tryz.ntmps87
 go_wp2_with fail
 go_loopg [5,6] n (fun m iv jv wr=>Hid (SrchI n p w m iv jv wr))
 case atStart=>exact H00
 case round =>
  obtain ⟨i,j,rfl,rfl,hij,hj,hmm,h1,h2,hb⟩:=hrel.out
  clear hrel H00
  have HM:=Lib.hid hmm
  have H1:=Lib.hid h1
  have H2:=Lib.hid h2
  have HB:=Lib.hid hb
  clear hmm h1 h2
  by_cases hlt:i < j
  ·have e:(((i + j) / 2:Nat):Int) = ((i:Int) + (j:Int)) / 2:=by omega
   have hC:=HC2.out wr hb ((i + j) / 2) (by omega)
   rw [e] at hC
   have HCi:=Lib.hid hC
   have HE:=Lib.hid e
   clear hb hC e
   generalize hpm:p ((i + j) / 2) = pm at *
   have HPm:=Lib.hid hpm
   clear hpm
   have hw1:IntKind.i64.wrap (((i:Int) + (j:Int)) / 2 + 1) = ((i:Int) + (j:Int)) / 2 + 1:=IntWalk.i64_in _ (by omega)
   go_wp2_with fail
   refine HCi.out.mono ?_
   rintro e w2 ⟨rfl,hb2⟩
   have HB2:=Lib.hid (HB.out.trans (hb2.mono HB.out.size))
   clear hb2
   cases pm
   ·dsimp only [Bool.not_false]
    go_wp2_with fail
    go_roundg ((i + j) / 2 - i)
    case measure=>have:=HM.out;omega
    case rel=>exact Lib.hid ⟨i,(i + j) / 2,rfl,by rw [← HE.out],by omega,by omega,rfl,H1.out,fun _=>HPm.out,HB2.out⟩
   ·dsimp only [Bool.not_true]
    go_wp2_with fail
    go_roundg (j - ((i + j) / 2 + 1))
    case measure=>have:=HM.out;omega
    case rel=>exact Lib.hid ⟨(i + j) / 2 + 1,j,by rw [← HE.out];rfl,rfl,by omega,by omega,rfl,fun _=>by rw [Nat.add_sub_cancel];exact HPm.out,H2.out,HB2.out⟩
  ·obtain rfl:i = j:=by omega
   have hk:=HK2.out i hj H1.out H2.out
   have HE:=Lib.hid hk
   clear hk
   go_wp2_with fail
   go_ret
   exact ⟨by rw [HE.out];rfl,HB.out⟩
end
end Go.Proofs.YtfbggmbmgohiiaaGreat.tb
