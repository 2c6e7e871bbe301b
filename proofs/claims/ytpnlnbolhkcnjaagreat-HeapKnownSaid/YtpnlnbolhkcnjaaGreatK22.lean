/- HpR,HpS. No condition beyond theirs. -/
import Derived.Test.YtpnlnbolhkcnjaaGreatK17
set_option linter.unusedSimpArgs false
set_option linter.unusedVariables false
set_option maxHeartbeats 4000000
set_option maxRecDepth 100000
namespace Go.Proofs.YtpnlnbolhkcnjaaGreat.hp
open Go.RowKit mem words rec tm
structure St where
 O:List (List Int)
 N:List ByteArray
 E:List (Int × ByteArray × Int)
 gv:Int
 tot:Int
def St.Y (σ:St):List Int:=σ.O.flatten
def addO (x:List Int) (σ:St):St:={ σ with O:=σ.O ++ [x] }
def cellO (x1 x2:Int) (σ:St):Int × St:=(ptrW 1 false σ.Y.length,addO [x1,x2] σ)
def boxO (k:Int) (l:List Int) (σ:St):Int × St:=(ptrW 2 false σ.Y.length,addO (hdW k l.length :: l) σ)
def atomO (s:ByteArray) (σ:St):Int × St:=(atomW (names.putI σ.N s),{ σ with N:=names.putL σ.N s })
def toU (n:Int):Int:=n % 18446744073709551616
def intO (n:Int) (σ:St):Int × St:=if smallOk n then (smallW n,σ) else boxO 6 [toU n] σ
def findE (E:List (Int × ByteArray × Int)) (s:ByteArray):Option Nat:=E.findIdx? (fun e=>decide (s = e.2.1))
def upE (E:List (Int × ByteArray × Int)) (i:Nat) (d:Int):List (Int × ByteArray × Int):=E.modify i (fun e=>(e.1,e.2.1,e.2.2 + d))
def blobO (s:ByteArray) (σ:St):Int × St :=
 match findE σ.E s with
 | some i=>(((σ.E[i]?).map (·.1)).getD 0,{ σ with E:=upE σ.E i 1 })
 | none=>(σ.gv + 1,{ σ with E:=σ.E ++ [(σ.gv + 1,s,1)],gv:=σ.gv + 1,tot:=σ.tot + s.size })
def byteN (s:ByteArray) (k:Nat):Nat:=(s.data[k]?.getD 0).toNat
def packN (s:ByteArray) (i j:Nat):Nat:=((List.range 8).map (fun k=>if 8 * j + k < i then byteN s (8 * j + k) * 2 ^ (56 - 8 * k) else 0)).sum
def packI (s:ByteArray) (i n:Nat):List Int:=(List.range n).map (fun j=>((packN s i j:Nat):Int))
def bitsO (s:ByteArray) (n:Int) (σ:St):Int × St :=
 if 512 < n then
  let a:=blobO s σ
  boxO 8 [smallW a.1,smallW 0,smallW n] a.2
 else boxO 7 (smallW n :: packI s s.size ((n + 63) / 64).toNat) σ
def listO:List Int→St→Int × St
 | [],σ=>(0,σ)
 | [x],σ=>(x,σ)
 | x :: y :: l,σ =>
  let a:=listO (y :: l) σ
  cellO x a.1 a.2
def kindO (f:TF) (ws:List Int) (σ:St):Int × St :=
 if f.kind = 1 then intO f.int σ
 else if f.kind = 2 then atomO f.name σ
 else if f.kind = 8 then (11,σ)
 else if f.kind = 9 then listO ws σ
 else if f.kind = 7 then boxO 1 ws σ
 else if f.kind = 4 then
  let a:=atomO f.name σ
  boxO 2 (a.1 :: smallW f.gen :: smallW f.int :: smallW f.arity :: ws) a.2
 else if f.kind = 5 then
  let a:=atomO f.name σ
  let b:=atomO f.func a.2
  boxO 3 [a.1,b.1,smallW f.arity] b.2
 else if f.kind = 6 then
  let a:=atomO f.name σ
  boxO 4 [a.1,smallW f.gen,smallW f.int] a.2
 else if f.kind = 3 then
  let a:=atomO f.name σ
  boxO 5 [a.1,smallW f.gen,smallW f.int] a.2
 else bitsO f.bytes f.bits σ
def itemsO {α:Type} (p:α→St→Int × St):List α→St→List Int × St
 | [],σ=>([],σ)
 | t :: l,σ =>
  let a:=p t σ
  let b:=itemsO p l a.2
  (a.1 :: b.1,b.2)
theorem itemsO_snoc {α:Type} (p:α→St→Int × St) (t:α):∀ (l:List α) (σ:St),itemsO p (l ++ [t]) σ = ((itemsO p l σ).1 ++ [(p t (itemsO p l σ).2).1],(p t (itemsO p l σ).2).2)
 | [],σ=>rfl
 | x :: l,σ=>by
  show itemsO p (x :: (l ++ [t])) σ = _;simp only [itemsO];rw [itemsO_snoc p t l];rfl
theorem itemsO_len {α:Type} (p:α→St→Int × St):∀ (l:List α) (σ:St),(itemsO p l σ).1.length = l.length
 | [],σ=>rfl
 | x :: l,σ=>by simp only [itemsO,List.length_cons];rw [itemsO_len p l]
theorem itemsO_step {α:Type} (p:α→St→Int × St) (l:List α) (k:Nat) (h:k < l.length) (σ:St):itemsO p (l.take (k + 1)) σ = ((itemsO p (l.take k) σ).1 ++ [(p l[k] (itemsO p (l.take k) σ).2).1],(p l[k] (itemsO p (l.take k) σ).2).2):=by
 rw [List.take_succ_eq_append_getElem h,itemsO_snoc]
def putO:(n:Nat)→Tm n→St→Int × St
 | 0,t,_=>(nomatch (show Empty from t))
 | n + 1,t,σ =>
  let r:=itemsO (putO n) t.items σ
  kindO t.f r.1 r.2
def needF (f:TF) (n:Nat):Int :=
 if f.kind = 1 then (if smallOk f.int then 0 else 2)
 else if f.kind = 9 then 2 * ((n:Int) - 1)
 else if f.kind = 7 then 1 + (n:Int)
 else if f.kind = 4 then 5 + (n:Int)
 else if f.kind = 5∨f.kind = 6∨f.kind = 3 then 4
 else if f.kind = 10 then (if 512 < f.bits then 4 else 2 + (f.bits + 63) / 64)
 else 0
def needT:(n:Nat)→Tm n→Int
 | 0,t=>(nomatch (show Empty from t))
 | n + 1,t=>needF t.f t.items.length + (t.items.map (needT n)).sum
abbrev Ents:=List (Int × ByteArray × Int)
def idsK (E:Ents):List (ByteArray × Value):=E.map fun e=>(e.2.1,.int .i64 e.1)
abbrev entV (s:ByteArray) (c:Int):Value:=.agg #[.string s,.int .i64 c]
def entK (E:Ents):List (Int × Value):=E.map fun e=>(e.1,entV e.2.1 e.2.2)
structure WE (E:Ents) (gv:Int):Prop where
 ids:(E.map (·.1)).Nodup
 strs:(E.map (·.2.1)).Nodup
 rng:∀ e ∈ E,1 ≤ e.1∧e.1 ≤ gv
theorem idx_ids (E:Ents) (s:ByteArray):alIdx (idsK E) s = findE E s:=by
 unfold alIdx idsK findE;rw [List.findIdx?_map];rfl
theorem findE_get {E:Ents} {s:ByteArray} {i:Nat} (h:findE E s = some i):∃ e,E[i]? = some e∧e.2.1 = s∧i < E.length:=by
 unfold findE at h;rw [List.findIdx?_eq_some_iff_getElem] at h;obtain ⟨hl,hk,_⟩:=h;exact ⟨E[i],List.getElem?_eq_getElem hl,(of_decide_eq_true hk).symm,hl⟩
theorem find_ids (E:Ents) (s:ByteArray):alFind (idsK E) s = (findE E s).map fun i=>Value.int .i64 (((E[i]?).map (·.1)).getD 0):=by
 rw [← alFind_idx,idx_ids];cases h:findE E s with
 | none=>rfl
 | some i =>
  obtain ⟨e,he,_⟩:=findE_get h;simp [idsK,he]
theorem idx_ent {E:Ents} {i:Nat} {e:Int × ByteArray × Int} (hn:(E.map (·.1)).Nodup) (h:E[i]? = some e):alIdx (entK E) e.1 = some i:=by
 unfold alIdx entK;rw [List.findIdx?_map,List.findIdx?_eq_some_iff_getElem];obtain ⟨hl,he⟩:=List.getElem?_eq_some_iff.1 h;refine ⟨hl,by simp [he],fun j hj=>?_⟩;have hjl:j < E.length:=by omega
 simp only [Function.comp_apply,decide_eq_true_eq];intro heq;have:=_root_.List.pairwise_iff_getElem.1 hn j i (by simpa using hjl) (by simpa using hl) hj;apply this;simp [he,heq]
theorem no_ent {E:Ents} {gv:Int} (hw:WE E gv) {k:Int} (hk:gv < k):alIdx (entK E) k = none:=by
 unfold alIdx entK;rw [List.findIdx?_map,List.findIdx?_eq_none_iff];intro e he;have:=hw.rng e he;simp only [Function.comp_apply,decide_eq_false_iff_not];omega
theorem find_ent {E:Ents} {i:Nat} {e:Int × ByteArray × Int} (hn:(E.map (·.1)).Nodup) (h:E[i]? = some e):alFind (entK E) e.1 = some (entV e.2.1 e.2.2):=by
 rw [← alFind_idx,idx_ent hn h];simp [entK,h]
theorem put_ent {E:Ents} {i:Nat} {e:Int × ByteArray × Int} (hn:(E.map (·.1)).Nodup) (h:E[i]? = some e) (d:Int):alPut (entK E) e.1 (entV e.2.1 (e.2.2 + d)) = entK (upE E i d):=by
 unfold alPut;rw [idx_ent hn h];unfold entK upE;show List.modify (List.map _ E) i _ = _;apply List.ext_getElem?;intro j;rw [List.getElem?_modify,List.getElem?_map,List.getElem?_map,List.getElem?_modify]
 by_cases e1:i = j
 ·subst e1;simp [h]
 ·simp [e1]
theorem put_new {E:Ents} {gv:Int} (hw:WE E gv) {k:Int} (hk:gv < k) (s:ByteArray) (c:Int):alPut (entK E) k (entV s c) = entK (E ++ [(k,s,c)]):=by
 unfold alPut;rw [no_ent hw hk];simp [entK]
theorem put_ids {E:Ents} {s:ByteArray} (h:findE E s = none) (k c:Int):alPut (idsK E) s (.int .i64 k) = idsK (E ++ [(k,s,c)]):=by
 unfold alPut;rw [idx_ids,h];simp [idsK]
theorem ids_up (E:Ents) (i:Nat) (d:Int):idsK (upE E i d) = idsK E∧(upE E i d).map (·.1) = E.map (·.1)∧(upE E i d).map (·.2.1) = E.map (·.2.1):=by
 have:∀ {β:Type} (f:Int × ByteArray × Int→β) (hf:∀ e:Int × ByteArray × Int,f (e.1,e.2.1,e.2.2 + d) = f e),(upE E i d).map f = E.map f:=fun f hf=>map_modify_same (f:=fun e=>(e.1,e.2.1,e.2.2 + d)) hf E i;exact ⟨this _ (fun _=>rfl),this _ (fun _=>rfl),this _ (fun _=>rfl)⟩
theorem WE.up {E:Ents} {gv:Int} (h:WE E gv) (i:Nat) (d:Int):WE (upE E i d) gv:=by
 obtain ⟨_,h1,h2⟩:=ids_up E i d;refine ⟨h1 ▸ h.ids,h2 ▸ h.strs,fun e he=>?_⟩;have:e.1 ∈ (upE E i d).map (·.1):=List.mem_map_of_mem he;rw [h1] at this;obtain ⟨e',he',hq⟩:=List.mem_map.1 this;rw [← hq];exact h.rng e' he'
theorem WE.new {E:Ents} {gv:Int} (h:WE E gv) (h0:0 ≤ gv) {s:ByteArray} (hs:findE E s = none) (c:Int):WE (E ++ [(gv + 1,s,c)]) (gv + 1):=by
 refine ⟨?_,?_,fun e he=>?_⟩
 ·rw [List.map_append,List.nodup_append];refine ⟨h.ids,by simp,fun a ha b hb=>?_⟩;simp only [List.map_cons,List.map_nil,List.mem_singleton] at hb;obtain ⟨e,he,rfl⟩:=List.mem_map.1 ha;have:=h.rng e he;omega
 ·rw [List.map_append,List.nodup_append];refine ⟨h.strs,by simp,fun a ha b hb=>?_⟩;simp only [List.map_cons,List.map_nil,List.mem_singleton] at hb;obtain ⟨e,he,rfl⟩:=List.mem_map.1 ha;subst hb;unfold findE at hs;rw [List.findIdx?_eq_none_iff] at hs;have:=hs e he;simp only [decide_eq_false_iff_not] at this;exact fun q=>this q.symm
 ·rcases List.mem_append.1 he with he | he
  ·have:=h.rng e he;omega
  ·simp only [List.mem_singleton] at he;subst he;exact ⟨by show 1 ≤ gv + 1;omega,Int.le_refl _⟩
end Go.Proofs.YtpnlnbolhkcnjaaGreat.hp
