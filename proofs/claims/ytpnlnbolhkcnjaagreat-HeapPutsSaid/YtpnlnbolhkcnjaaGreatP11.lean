/- HpR,MapR,HpS. No condition beyond theirs. -/
import Derived.Test.YtpnlnbolhkcnjaaGreatP08
import Derived.Test.YtpnlnbolhkcnjaaGreatP10
import Derived.Maps.RangeWalk
set_option linter.unusedSectionVars false
set_option linter.unusedSimpArgs false
set_option linter.unusedVariables false
set_option maxHeartbeats 4000000
set_option maxRecDepth 100000
namespace Go.Proofs.YtpnlnbolhkcnjaaGreat
namespace hp
open Go.RowKit mem words rec tm
structure St where
 O:List (List Int)
 N:List ByteArray
 E:List (Int × ByteArray × Int)
 gv:Int
 tot:Int
def St.Y (σ:St):List Int:=σ.O.flatten
def addO (x:List Int) (σ:St):St:={ σ with O:=σ.O ++ [x] }
def cellO (x1 x2:Int) (σ:St):Int × St:=(ptrW 1 false σ.Y.length,addO [x1,x2] σ)
def boxO (k:Int) (l:List Int) (σ:St):Int × St:=(ptrW 2 false σ.Y.length,addO (hdW k l.length :: l) σ)
def atomO (s:ByteArray) (σ:St):Int × St:=(atomW (names.putI σ.N s),{ σ with N:=names.putL σ.N s })
def toU (n:Int):Int:=n % 18446744073709551616
def intO (n:Int) (σ:St):Int × St:=if smallOk n then (smallW n,σ) else boxO 6 [toU n] σ
def findE (E:List (Int × ByteArray × Int)) (s:ByteArray):Option Nat:=E.findIdx? (fun e=>decide (s = e.2.1))
def upE (E:List (Int × ByteArray × Int)) (i:Nat) (d:Int):List (Int × ByteArray × Int):=E.modify i (fun e=>(e.1,e.2.1,e.2.2 + d))
def blobO (s:ByteArray) (σ:St):Int × St :=
 match findE σ.E s with
 | some i=>(((σ.E[i]?).map (·.1)).getD 0,{ σ with E:=upE σ.E i 1 })
 | none=>(σ.gv + 1,{ σ with E:=σ.E ++ [(σ.gv + 1,s,1)],gv:=σ.gv + 1,tot:=σ.tot + s.size })
def byteN (s:ByteArray) (k:Nat):Nat:=(s.data[k]?.getD 0).toNat
def packN (s:ByteArray) (i j:Nat):Nat:=((List.range 8).map (fun k=>if 8 * j + k < i then byteN s (8 * j + k) * 2 ^ (56 - 8 * k) else 0)).sum
def packI (s:ByteArray) (i n:Nat):List Int:=(List.range n).map (fun j=>((packN s i j:Nat):Int))
def bitsO (s:ByteArray) (n:Int) (σ:St):Int × St :=
 if 512 < n then
  let a:=blobO s σ
  boxO 8 [smallW a.1,smallW 0,smallW n] a.2
 else boxO 7 (smallW n :: packI s s.size ((n + 63) / 64).toNat) σ
def listO:List Int→St→Int × St
 | [],σ=>(0,σ)
 | [x],σ=>(x,σ)
 | x :: y :: l,σ =>
  let a:=listO (y :: l) σ
  cellO x a.1 a.2
def kindO (f:TF) (ws:List Int) (σ:St):Int × St :=
 if f.kind = 1 then intO f.int σ
 else if f.kind = 2 then atomO f.name σ
 else if f.kind = 8 then (11,σ)
 else if f.kind = 9 then listO ws σ
 else if f.kind = 7 then boxO 1 ws σ
 else if f.kind = 4 then
  let a:=atomO f.name σ
  boxO 2 (a.1 :: smallW f.gen :: smallW f.int :: smallW f.arity :: ws) a.2
 else if f.kind = 5 then
  let a:=atomO f.name σ
  let b:=atomO f.func a.2
  boxO 3 [a.1,b.1,smallW f.arity] b.2
 else if f.kind = 6 then
  let a:=atomO f.name σ
  boxO 4 [a.1,smallW f.gen,smallW f.int] a.2
 else if f.kind = 3 then
  let a:=atomO f.name σ
  boxO 5 [a.1,smallW f.gen,smallW f.int] a.2
 else bitsO f.bytes f.bits σ
def itemsO {α:Type} (p:α→St→Int × St):List α→St→List Int × St
 | [],σ=>([],σ)
 | t :: l,σ =>
  let a:=p t σ
  let b:=itemsO p l a.2
  (a.1 :: b.1,b.2)
theorem itemsO_snoc {α:Type} (p:α→St→Int × St) (t:α):∀ (l:List α) (σ:St),itemsO p (l ++ [t]) σ = ((itemsO p l σ).1 ++ [(p t (itemsO p l σ).2).1],(p t (itemsO p l σ).2).2)
 | [],σ=>rfl
 | x :: l,σ=>by
  show itemsO p (x :: (l ++ [t])) σ = _;simp only [itemsO];rw [itemsO_snoc p t l];rfl
theorem itemsO_len {α:Type} (p:α→St→Int × St):∀ (l:List α) (σ:St),(itemsO p l σ).1.length = l.length
 | [],σ=>rfl
 | x :: l,σ=>by simp only [itemsO,List.length_cons];rw [itemsO_len p l]
theorem itemsO_step {α:Type} (p:α→St→Int × St) (l:List α) (k:Nat) (h:k < l.length) (σ:St):itemsO p (l.take (k + 1)) σ = ((itemsO p (l.take k) σ).1 ++ [(p l[k] (itemsO p (l.take k) σ).2).1],(p l[k] (itemsO p (l.take k) σ).2).2):=by
 rw [List.take_succ_eq_append_getElem h,itemsO_snoc]
def putO:(n:Nat)→Tm n→St→Int × St
 | 0,t,_=>(nomatch (show Empty from t))
 | n + 1,t,σ =>
  let r:=itemsO (putO n) t.items σ
  kindO t.f r.1 r.2
def needF (f:TF) (n:Nat):Int :=
 if f.kind = 1 then (if smallOk f.int then 0 else 2)
 else if f.kind = 9 then 2 * ((n:Int) - 1)
 else if f.kind = 7 then 1 + (n:Int)
 else if f.kind = 4 then 5 + (n:Int)
 else if f.kind = 5∨f.kind = 6∨f.kind = 3 then 4
 else if f.kind = 10 then (if 512 < f.bits then 4 else 2 + (f.bits + 63) / 64)
 else 0
def needT:(n:Nat)→Tm n→Int
 | 0,t=>(nomatch (show Empty from t))
 | n + 1,t=>needF t.f t.items.length + (t.items.map (needT n)).sum
end hp
namespace mem
open Go.RowKit
open Go.ChangeMaps (setBlock)
section
variable {κ:Type} [DecidableEq κ]
structure KeyAny (P:Program) (kt:TypeId) (toV:κ→Value):Prop where
 check:∀ (b:Bool) (k:κ) (w:World),(Instr.checkKey b 10000 kt (toV k)).run P w = .ok () w
 find:∀ (k:κ) (es:List MapEntry) (kvs:List (κ × Value)),es.map (fun e=>(e.key,e.val)) = kvs.map (fun p=>(toV p.1,p.2))→∀ w:World,(Instr.findKey kt (toV k) es).run P w = .ok ((alIdx kvs k).map (fun j=>(j,((kvs[j]?).map (·.2)).getD undef))) w
 bits:∀ a,Instr.sameBits 10000 (toV a) (toV a) = true
theorem KeyKind.any {P:Program} {kt:TypeId} {toV:κ→Value} (K:KeyKind P kt toV):KeyAny P kt toV:=by
 obtain ⟨d,hd,hdd,hs⟩:=K.kind;exact ⟨fun b k w=>run_checkKey hd hdd b (toV k) w,fun k es kvs h w=>run_findKey K k es kvs h w,K.bits⟩
def MapR (toV:κ→Value) (w:World) (m:Nat) (kvs:List (κ × Value)):Prop :=
 ∃ es clock,w.heap[m]? = some (.map es clock)∧es.toList.map (fun e=>(e.key,e.val)) = kvs.map (fun p=>(toV p.1,p.2))∧(∀ e ∈ es.toList,e.born < clock)∧(es.toList.map (·.born)).Nodup
theorem MapR.is {toV:κ→Value} {w:World} {m:Nat} {kvs:List (κ × Value)} (h:MapR toV w m kvs):MapIs toV w m kvs:=by
 obtain ⟨es,clock,hh,he,_⟩:=h;exact ⟨es,clock,hh,he⟩
theorem MapR.lt {toV:κ→Value} {w:World} {m:Nat} {kvs:List (κ × Value)} (h:MapR toV w m kvs):m < w.heap.size:=h.is.lt
theorem MapR.same {toV:κ→Value} {w w':World} {m:Nat} {kvs:List (κ × Value)} (h:MapR toV w m kvs) (hs:w'.heap[m]? = w.heap[m]?):MapR toV w' m kvs:=by
 obtain ⟨es,clock,hh,r⟩:=h;exact ⟨es,clock,hs.trans hh,r⟩
theorem MapR.made (toV:κ→Value) (w:World):MapR toV (w.alloc (.map #[] 0)) w.heap.size [] :=
 ⟨#[],0,(MapKept.heap_alloc w _).1,rfl,fun e h=>by simp at h,by simp⟩
theorem run_lookup_any_ok {P:Program} {t kt et:TypeId} {toV:κ→Value} (K:KeyAny P kt toV) (ht:P.underlying t = some (.map kt et)) {w:World} {m:Nat} {kvs:List (κ × Value)} (hm:MapIs toV w m kvs) (k:κ)
 {z:Value} (hz:(zeroValue et).run P w = .ok z w) :
 (Instr.lookup t (.map (some m)) (toV k) true).run P w = .ok (.tuple #[(alFind kvs k).getD z,.bool (alFind kvs k).isSome]) w:=by
 obtain ⟨es,clock,hh,he⟩:=hm;have hf:=K.find k es.toList kvs he w;have hc:=K.check es.isEmpty k w;have hi:=alFind_idx kvs k;simp [Instr.lookup,run_underlying ht,getObj,Sem.run,hh,hc,hf,Result.andThen];cases hx:alIdx kvs k with
 | none=>rw [hx] at hi;simp [← hi,hz,Result.andThen]
 | some j=>rw [hx] at hi;simp [← hi]
theorem run_lookup_any {P:Program} {t kt et:TypeId} {toV:κ→Value} (K:KeyAny P kt toV) (ht:P.underlying t = some (.map kt et)) {w:World} {m:Nat} {kvs:List (κ × Value)} (hm:MapIs toV w m kvs) (k:κ)
 {z:Value} (hz:(zeroValue et).run P w = .ok z w) :
 (Instr.lookup t (.map (some m)) (toV k) false).run P w = .ok ((alFind kvs k).getD z) w:=by
 obtain ⟨es,clock,hh,he⟩:=hm;have hf:=K.find k es.toList kvs he w;have hc:=K.check es.isEmpty k w;have hi:=alFind_idx kvs k;simp [Instr.lookup,run_underlying ht,getObj,Sem.run,hh,hc,hf,Result.andThen];cases hx:alIdx kvs k with
 | none=>rw [hx] at hi;simp [← hi,hz,Result.andThen]
 | some j=>rw [hx] at hi;simp [← hi]
theorem mem_modify {β:Type} {f:β→β}:∀ {l:List β} {j:Nat} {x:β},x ∈ l.modify j f→x ∈ l∨∃ y ∈ l,x = f y:=by
 intro l
 induction l with
 | nil=>intro j x h;simp at h
 | cons a l ih =>
  intro j x h;cases j with
  | zero =>
   rw [List.modify_zero_cons] at h
   rcases List.mem_cons.1 h with rfl | h
   ·exact .inr ⟨a,List.mem_cons_self,rfl⟩
   ·exact .inl (List.mem_cons_of_mem _ h)
  | succ j =>
   rw [List.modify_succ_cons] at h
   rcases List.mem_cons.1 h with rfl | h
   ·exact .inl List.mem_cons_self
   ·rcases ih h with h | ⟨y,hy,e⟩
    ·exact .inl (List.mem_cons_of_mem _ h)
    ·exact .inr ⟨y,List.mem_cons_of_mem _ hy,e⟩
theorem map_modify_same {β γ:Type} {f:β→β} {g:β→γ} (hf:∀ x,g (f x) = g x):∀ (l:List β) (j:Nat),(l.modify j f).map g = l.map g:=by
 intro l
 induction l with
 | nil=>intro j;simp
 | cons a l ih =>
  intro j;cases j with
  | zero=>simp [List.modify_zero_cons,hf]
  | succ j=>simp [List.modify_succ_cons,ih]
theorem run_mapUpdate_any {P:Program} {t kt et:TypeId} {toV:κ→Value} (K:KeyAny P kt toV) (ht:P.underlying t = some (.map kt et)) {w:World} {m:Nat} {kvs:List (κ × Value)} (hm:MapR toV w m kvs) (k:κ) (v:Value) :
 ∃ w',(Instr.mapUpdate t (.map (some m)) (toV k) v).run P w = .ok () w'∧MapR toV w' m (alPut kvs k v)∧TouchB (fun i=>i = m) w w'∧w'.heap.size = w.heap.size:=by
 have hlt:=hm.lt;obtain ⟨es,clock,hh,he,hb,hn⟩:=hm;have hf:=K.find k es.toList kvs he w;have hc:=K.check false k w;cases hx:alIdx kvs k with
 | none =>
  rw [hx] at hf
  refine ⟨{ w with heap:=w.heap.setIfInBounds m (.map (es.push { key:=toV k,val:=v,born:=clock }) (clock + 1)) },?_,?_,set_touch w m _,by simp⟩
  ·simp [Instr.mapUpdate,run_underlying ht,getObj,setObj,Sem.run,hh,hc,hf,Result.andThen]
  ·refine ⟨_,_,set_heap w m _ hlt,?_,?_,?_⟩
   ·simp [alPut,hx,he]
   ·intro e h;rw [Array.toList_push] at h
    rcases List.mem_append.1 h with h | h
    ·have:=hb e h;omega
    ·obtain rfl:e = { key:=toV k,val:=v,born:=clock }:=by simpa using h
     exact Nat.lt_succ_self _
   ·rw [Array.toList_push,List.map_append,List.nodup_append];refine ⟨hn,by simp,fun a ha b hb' e=>?_⟩;obtain ⟨x,hx,rfl⟩:=List.mem_map.1 ha;have h1:=hb x hx;obtain rfl:b = clock:=by simpa using hb'
    omega
 | some j =>
  rw [hx] at hf;obtain ⟨v0,hj⟩:=alIdx_lt hx;have hek:es[j]?.map (fun e=>(e.key,e.val)) = some (toV k,v0):=by
   have h1:=congrArg (fun l=>l[j]?) he;simp only [List.getElem?_map,Array.getElem?_toList,hj,Option.map_some] at h1;exact h1
  have hek':(es[j]?).map (·.key) = some (toV k):=by
   cases hh:es[j]? with
   | none=>rw [hh] at hek;simp at hek
   | some e=>rw [hh] at hek;simp only [Option.map_some,Option.some.injEq,Prod.mk.injEq] at hek;simp [hek.1]
  have hst:(Instr.keyThatStays (toV k) (toV k)).run P w = .ok (toV k) w:=by
   unfold Instr.keyThatStays;rw [if_pos (K.bits k)];rfl
  refine ⟨{ w with heap:=w.heap.setIfInBounds m (.map (es.modify j fun e=>{ e with key:=toV k,val:=v }) clock) },?_,?_,set_touch w m _,by simp⟩
  ·simp [Instr.mapUpdate,run_underlying ht,getObj,setObj,Sem.run,hh,hc,hf,Result.andThen,hek',hst]
  ·refine ⟨_,_,set_heap w m _ hlt,?_,?_,?_⟩
   ·simp only [alPut,hx,Array.toList_modify];exact map_modify_entries toV es.toList kvs he j k v v0 hj
   ·intro e h;rw [Array.toList_modify] at h
    rcases mem_modify h with h | ⟨y,hy,rfl⟩
    ·exact hb e h
    ·exact hb y hy
   ·rw [Array.toList_modify,map_modify_same (f:=fun e:MapEntry=>{ e with key:=toV k,val:=v }) (g:=fun e:MapEntry=>e.born) (fun _=>rfl)];exact hn
theorem wpList_mapUpdate_r {P:Program} (w:World) {ops:Array Oper} {rest:List Oper} {o:Oper} {a:Act} {Q:Exit→Act→World→Prop}
 (hg:o.guard = none) (mo xo vo:Operand) (t:TypeId) (hop:o.op = Op.mapUpdate t mo xo vo)
 {kt et:TypeId} {toV:κ→Value} (K:KeyAny P kt toV) (ht:P.underlying t = some (.map kt et)) (m:Nat) (kvs:List (κ × Value)) (hm:MapR toV w m kvs) (k:κ) (v:Value)
 (hmo:a.eval mo = .map (some m)) (hx:a.eval xo = toV k) (hv:a.eval vo = v)
 (hK:∀ w',MapR toV w' m (alPut kvs k v)→TouchB (fun i=>i = m) w w'→w'.heap.size = w.heap.size→wpList P ops Q rest (a.put o.dst undef) w') :
 wpList P ops Q (o :: rest) a w:=by
 refine wpList_plain hg fun K' hK'=>?_;obtain ⟨w',hrun,r1,r2,r3⟩:=run_mapUpdate_any K ht hm k v;unfold Oper.wp;simp [execOp,hop,hmo,hx,hv,hrun,Result.andThen];exact hK' _ _ (hK w' r1 r2 r3)
def RangeR (toV:κ→Value) (w:World) (m r:Nat) (kvs left:List (κ × Value)):Prop :=
 ∃ es clock since seen c0,w.heap[m]? = some (.map es clock)∧es.toList.map (fun e=>(e.key,e.val)) = kvs.map (fun p=>(toV p.1,p.2))∧(∀ e ∈ es.toList,e.born < clock)∧(es.toList.map (·.born)).Nodup ∧
  w.heap[r]? = some (.mapIter (some m) since seen c0)∧(∀ e ∈ es.toList,e.born < since)∧since ≤ c0∧since ≤ clock∧(es.toList.filter (fun e=>!seen.contains e.born)).map (fun e=>(e.key,e.val)) = left.map (fun p=>(toV p.1,p.2))
theorem RangeR.map {toV:κ→Value} {w:World} {m r:Nat} {kvs left:List (κ × Value)} (h:RangeR toV w m r kvs left):MapR toV w m kvs:=by
 obtain ⟨es,clock,since,seen,c0,h1,h2,h3,h4,_⟩:=h;exact ⟨es,clock,h1,h2,h3,h4⟩
theorem RangeR.lt {toV:κ→Value} {w:World} {m r:Nat} {kvs left:List (κ × Value)} (h:RangeR toV w m r kvs left):r < w.heap.size:=by
 obtain ⟨es,clock,since,seen,c0,_,_,_,_,h5,_⟩:=h;exact (Array.getElem?_eq_some_iff.1 h5).1
theorem RangeR.same {toV:κ→Value} {w w':World} {m r:Nat} {kvs left:List (κ × Value)} (h:RangeR toV w m r kvs left) (hm:w'.heap[m]? = w.heap[m]?) (hr:w'.heap[r]? = w.heap[r]?):RangeR toV w' m r kvs left:=by
 obtain ⟨es,clock,since,seen,c0,h1,h2,h3,h4,h5,q⟩:=h;exact ⟨es,clock,since,seen,c0,hm.trans h1,h2,h3,h4,hr.trans h5,q⟩
theorem RangeR.start {P:Program} {t kt et:TypeId} {toV:κ→Value} (ht:P.underlying t = some (.map kt et)) {w:World} {m:Nat} {kvs:List (κ × Value)} (h:MapR toV w m kvs) :
 ∃ w',(Instr.range t (.map (some m))).run P w = .ok (.pointer (some ⟨w.heap.size,0,none⟩)) w'∧RangeR toV w' m w.heap.size kvs kvs∧w.grownBy w' none∧w'.heap.size = w.heap.size + 1:=by
 have hlt:=h.lt;obtain ⟨es,clock,hb,h2,h3,h4⟩:=h;refine ⟨_,run_range_map w t kt et m es clock ht hb,⟨es,clock,clock,#[],clock,((MapKept.heap_alloc w _).2 m hlt).trans hb,h2,h3,h4,(MapKept.heap_alloc w _).1,h3,Nat.le_refl _,Nat.le_refl _,?_⟩,World.grownBy_alloc w _ none,by simp⟩;rw [← h2];congr 1;rw [List.filter_eq_self];intro e _;simp
theorem map_split {β γ δ:Type} {f:β→δ} {g:γ→δ}:∀ {A:List β} {x:β} {B:List β} {L:List γ},(A ++ x :: B).map f = L.map g→∃ L1 y L2,L = L1 ++ y :: L2∧f x = g y∧(A ++ B).map f = (L1 ++ L2).map g:=by
 intro A
 induction A with
 | nil =>
  intro x B L h;cases L with
  | nil=>simp at h
  | cons y L =>
   simp only [List.nil_append,List.map_cons,List.cons.injEq] at h;exact ⟨[],y,L,rfl,h.1,by simpa using h.2⟩
 | cons a A ih =>
  intro x B L h;cases L with
  | nil=>simp at h
  | cons z L =>
   rw [List.cons_append,List.map_cons,List.map_cons,List.cons.injEq] at h;obtain ⟨L1,y,L2,rfl,e1,e2⟩:=ih h.2;exact ⟨z :: L1,y,L2,rfl,e1,by rw [List.cons_append,List.cons_append,List.map_cons,List.map_cons,h.1,e2]⟩
theorem RangeR.next {P:Program} {toV:κ→Value} {w:World} {m r:Nat} {kvs left:List (κ × Value)} (h:RangeR toV w m r kvs left) (hne:r ≠ m) (ty:TypeId) :
 (left = []∧(Instr.next (.pointer (some ⟨r,0,none⟩)) false ty).run P w = .ok (.tuple #[.bool false]) w) ∨
 ∃ L1 k v L2 w',left = L1 ++ (k,v) :: L2∧(Instr.next (.pointer (some ⟨r,0,none⟩)) false ty).run P w = .ok (.tuple #[.bool true,toV k,v]) w'∧RangeR toV w' m r kvs (L1 ++ L2) ∧
  w.grownBy w' (some r)∧w'.heap.size = w.heap.size∧(Instr.entry (.pointer (some ⟨r,0,none⟩))).run P w' = .ok (.tuple #[toV k,v]) w':=by
 obtain ⟨es,clock,since,seen,c0,hb,h2,h3,h4,hr,hold,hsc,hsk,hl⟩:=h;have hlo:(leftOf es seen).toList = es.toList.filter (fun e=>!seen.contains e.born):=by unfold leftOf;rw [Array.toList_filter]
 rcases run_next_at (P:=P) w ty r m since c0 seen es clock hr hb hold hsc with ⟨h0,hrun⟩ | ⟨e,he,w1,hal,hrun⟩
 ·refine .inl ⟨?_,hrun⟩;have:(leftOf es seen).toList = []:=List.eq_nil_of_length_eq_zero (by rw [Array.length_toList];exact h0);rw [← hlo,this] at hl;cases left with
  | nil=>rfl
  | cons a l=>simp at hl
 ·rw [hlo] at he;have hem:e ∈ es.toList:=(List.mem_filter.1 he).1;obtain ⟨A,B,hAB⟩:=List.append_of_mem he;rw [hAB] at hl;obtain ⟨L1,y,L2,rfl,e1,e2⟩:=map_split hl;obtain ⟨k,v⟩:=y;simp only [Prod.mk.injEq] at e1;obtain ⟨e1,e1'⟩:=e1;have hr1:w1.heap[r]? = some (.mapIter (some m) since seen c0):=by rcases hal with rfl | rfl <;> exact hr
  have hb1:w1.heap[m]? = some (.map es clock):=by rcases hal with rfl | rfl <;> exact hb
  have hset:=MapKept.heap_set (o':=.mapIter (some m) since (seen.push e.born) clock) hr1;have hb':(setBlock w1 r (.mapIter (some m) since (seen.push e.born) clock)).heap[m]? = some (.map es clock):=(hset.2 m (fun e1=>hne e1.symm)).trans hb1
  refine .inr ⟨L1,k,v,L2,_,rfl,by rw [← e1,← e1'];exact hrun,⟨es,clock,since,seen.push e.born,clock,hb',h2,h3,h4,hset.1,hold,hsk,hsk,?_⟩,?_,?_,by rw [← e1,← e1'];exact run_entry_at _ r m since seen es clock e hset.1 hb' hem h4⟩
  ·rw [← e2];congr 1;have hff:es.toList.filter (fun x=>!(seen.push e.born).contains x.born) = (es.toList.filter (fun x=>!seen.contains x.born)).filter (fun x=>!(x.born == e.born)):=by
    rw [List.filter_filter];refine List.filter_congr (fun x _=>?_);rw [contains_push];cases seen.contains x.born <;> cases (x.born == e.born) <;> rfl
   rw [hff,hAB,List.filter_append,List.filter_cons];have hnd:((A ++ e :: B).map (·.born)).Nodup:=by
    rw [← hAB];exact h4.sublist ((List.filter_sublist).map _)
   rw [List.map_append,List.map_cons,List.nodup_append] at hnd;obtain ⟨_,n2,n3⟩:=hnd;have n4:=(List.nodup_cons.1 n2).1;rw [if_neg (by simp)]
   congr 1
   ·rw [List.filter_eq_self];intro x hx;have:=n3 x.born (List.mem_map.2 ⟨x,hx,rfl⟩) e.born List.mem_cons_self;simpa using this
   ·rw [List.filter_eq_self];intro x hx;have:x.born ≠ e.born:=fun eq=>n4 (eq ▸ List.mem_map.2 ⟨x,hx,rfl⟩);simpa using this
  ·rcases hal with rfl | rfl <;> exact ⟨rfl,rfl,rfl,by simp [setBlock],fun i _ hi=>hset.2 i (fun e1=>hi (by rw [e1]))⟩
  ·rcases hal with rfl | rfl <;> simp [setBlock]
theorem wpList_range_r {P:Program} (w:World) {ops:Array Oper} {rest:List Oper} {o:Oper} {a:Act} {Q:Exit→Act→World→Prop} (hg:o.guard = none) (mo:Operand) (t:TypeId) (hop:o.op = Op.range t mo) {kt et:TypeId} {toV:κ→Value} (ht:P.underlying t = some (.map kt et)) (m:Nat) (kvs:List (κ × Value))
 (hmo:a.eval mo = .map (some m)) (hm:MapR toV w m kvs)
 (hK:∀ w',RangeR toV w' m w.heap.size kvs kvs→w.grownBy w' none→w'.heap.size = w.heap.size + 1→wpList P ops Q rest (a.put o.dst (.pointer (some ⟨w.heap.size,0,none⟩))) w') :
 wpList P ops Q (o :: rest) a w:=by
 refine wpList_plain hg fun K' hK'=>?_;obtain ⟨w',hrun,r1,r2,r3⟩:=RangeR.start ht hm;unfold Oper.wp;simp [execOp,hop,hmo,hrun,Result.andThen];exact hK' _ _ (hK w' r1 r2 r3)
theorem wpList_next_r {P:Program} (w:World) {ops:Array Oper} {rest:List Oper} {o:Oper} {a:Act} {Q:Exit→Act→World→Prop} (hg:o.guard = none) (it:Operand) (hop:o.op = Op.next it false) {toV:κ→Value} (m r:Nat) (hne:r ≠ m) (kvs left:List (κ × Value))
 (hit:a.eval it = .pointer (some ⟨r,0,none⟩)) (h:RangeR toV w m r kvs left)
 (hDone:left = []→wpList P ops Q rest (a.put o.dst (.tuple #[.bool false])) w)
 (hMore:∀ L1 k v L2 w',left = L1 ++ (k,v) :: L2→RangeR toV w' m r kvs (L1 ++ L2)→w.grownBy w' (some r)→w'.heap.size = w.heap.size→(Instr.entry (.pointer (some ⟨r,0,none⟩))).run P w' = .ok (.tuple #[toV k,v]) w'→wpList P ops Q rest (a.put o.dst (.tuple #[.bool true,toV k,v])) w') :
 wpList P ops Q (o :: rest) a w:=by
 refine wpList_plain hg fun K' hK'=>?_;unfold Oper.wp
 rcases h.next (P:=P) hne o.type with ⟨h0,hrun⟩ | ⟨L1,k,v,L2,w',hl,hrun,hrg,hgr,hsz,hen⟩
 ·simp [execOp,hop,hit,hrun,Result.andThen];exact hK' _ _ (hDone h0)
 ·simp [execOp,hop,hit,hrun,Result.andThen];exact hK' _ _ (hMore L1 k v L2 w' hl hrg hgr hsz hen)
end
end mem
namespace hp
open Go.RowKit mem words rec tm
abbrev Ents:=List (Int × ByteArray × Int)
def idsK (E:Ents):List (ByteArray × Value):=E.map fun e=>(e.2.1,.int .i64 e.1)
abbrev entV (s:ByteArray) (c:Int):Value:=.agg #[.string s,.int .i64 c]
def entK (E:Ents):List (Int × Value):=E.map fun e=>(e.1,entV e.2.1 e.2.2)
structure WE (E:Ents) (gv:Int):Prop where
 ids:(E.map (·.1)).Nodup
 strs:(E.map (·.2.1)).Nodup
 rng:∀ e ∈ E,1 ≤ e.1∧e.1 ≤ gv
theorem idx_ids (E:Ents) (s:ByteArray):alIdx (idsK E) s = findE E s:=by
 unfold alIdx idsK findE;rw [List.findIdx?_map];rfl
theorem findE_get {E:Ents} {s:ByteArray} {i:Nat} (h:findE E s = some i):∃ e,E[i]? = some e∧e.2.1 = s∧i < E.length:=by
 unfold findE at h;rw [List.findIdx?_eq_some_iff_getElem] at h;obtain ⟨hl,hk,_⟩:=h;exact ⟨E[i],List.getElem?_eq_getElem hl,(of_decide_eq_true hk).symm,hl⟩
theorem find_ids (E:Ents) (s:ByteArray):alFind (idsK E) s = (findE E s).map fun i=>Value.int .i64 (((E[i]?).map (·.1)).getD 0):=by
 rw [← alFind_idx,idx_ids];cases h:findE E s with
 | none=>rfl
 | some i =>
  obtain ⟨e,he,_⟩:=findE_get h;simp [idsK,he]
theorem idx_ent {E:Ents} {i:Nat} {e:Int × ByteArray × Int} (hn:(E.map (·.1)).Nodup) (h:E[i]? = some e):alIdx (entK E) e.1 = some i:=by
 unfold alIdx entK;rw [List.findIdx?_map,List.findIdx?_eq_some_iff_getElem];obtain ⟨hl,he⟩:=List.getElem?_eq_some_iff.1 h;refine ⟨hl,by simp [he],fun j hj=>?_⟩;have hjl:j < E.length:=by omega
 simp only [Function.comp_apply,decide_eq_true_eq];intro heq;have:=_root_.List.pairwise_iff_getElem.1 hn j i (by simpa using hjl) (by simpa using hl) hj;apply this;simp [he,heq]
theorem no_ent {E:Ents} {gv:Int} (hw:WE E gv) {k:Int} (hk:gv < k):alIdx (entK E) k = none:=by
 unfold alIdx entK;rw [List.findIdx?_map,List.findIdx?_eq_none_iff];intro e he;have:=hw.rng e he;simp only [Function.comp_apply,decide_eq_false_iff_not];omega
theorem find_ent {E:Ents} {i:Nat} {e:Int × ByteArray × Int} (hn:(E.map (·.1)).Nodup) (h:E[i]? = some e):alFind (entK E) e.1 = some (entV e.2.1 e.2.2):=by
 rw [← alFind_idx,idx_ent hn h];simp [entK,h]
theorem put_ent {E:Ents} {i:Nat} {e:Int × ByteArray × Int} (hn:(E.map (·.1)).Nodup) (h:E[i]? = some e) (d:Int):alPut (entK E) e.1 (entV e.2.1 (e.2.2 + d)) = entK (upE E i d):=by
 unfold alPut;rw [idx_ent hn h];unfold entK upE;show List.modify (List.map _ E) i _ = _;apply List.ext_getElem?;intro j;rw [List.getElem?_modify,List.getElem?_map,List.getElem?_map,List.getElem?_modify]
 by_cases e1:i = j
 ·subst e1;simp [h]
 ·simp [e1]
theorem put_new {E:Ents} {gv:Int} (hw:WE E gv) {k:Int} (hk:gv < k) (s:ByteArray) (c:Int):alPut (entK E) k (entV s c) = entK (E ++ [(k,s,c)]):=by
 unfold alPut;rw [no_ent hw hk];simp [entK]
theorem put_ids {E:Ents} {s:ByteArray} (h:findE E s = none) (k c:Int):alPut (idsK E) s (.int .i64 k) = idsK (E ++ [(k,s,c)]):=by
 unfold alPut;rw [idx_ids,h];simp [idsK]
theorem ids_up (E:Ents) (i:Nat) (d:Int):idsK (upE E i d) = idsK E∧(upE E i d).map (·.1) = E.map (·.1)∧(upE E i d).map (·.2.1) = E.map (·.2.1):=by
 have:∀ {β:Type} (f:Int × ByteArray × Int→β) (hf:∀ e:Int × ByteArray × Int,f (e.1,e.2.1,e.2.2 + d) = f e),(upE E i d).map f = E.map f:=fun f hf=>map_modify_same (f:=fun e=>(e.1,e.2.1,e.2.2 + d)) hf E i;exact ⟨this _ (fun _=>rfl),this _ (fun _=>rfl),this _ (fun _=>rfl)⟩
theorem WE.up {E:Ents} {gv:Int} (h:WE E gv) (i:Nat) (d:Int):WE (upE E i d) gv:=by
 obtain ⟨_,h1,h2⟩:=ids_up E i d;refine ⟨h1 ▸ h.ids,h2 ▸ h.strs,fun e he=>?_⟩;have:e.1 ∈ (upE E i d).map (·.1):=List.mem_map_of_mem he;rw [h1] at this;obtain ⟨e',he',hq⟩:=List.mem_map.1 this;rw [← hq];exact h.rng e' he'
theorem WE.new {E:Ents} {gv:Int} (h:WE E gv) (h0:0 ≤ gv) {s:ByteArray} (hs:findE E s = none) (c:Int):WE (E ++ [(gv + 1,s,c)]) (gv + 1):=by
 refine ⟨?_,?_,fun e he=>?_⟩
 ·rw [List.map_append,List.nodup_append];refine ⟨h.ids,by simp,fun a ha b hb=>?_⟩;simp only [List.map_cons,List.map_nil,List.mem_singleton] at hb;obtain ⟨e,he,rfl⟩:=List.mem_map.1 ha;have:=h.rng e he;omega
 ·rw [List.map_append,List.nodup_append];refine ⟨h.strs,by simp,fun a ha b hb=>?_⟩;simp only [List.map_cons,List.map_nil,List.mem_singleton] at hb;obtain ⟨e,he,rfl⟩:=List.mem_map.1 ha;subst hb;unfold findE at hs;rw [List.findIdx?_eq_none_iff] at hs;have:=hs e he;simp only [decide_eq_false_iff_not] at this;exact fun q=>this q.symm
 ·rcases List.mem_append.1 he with he | he
  ·have:=h.rng e he;omega
  ·simp only [List.mem_singleton] at he;subst he;exact ⟨by show 1 ≤ gv + 1;omega,Int.le_refl _⟩
end hp
end Go.Proofs.YtpnlnbolhkcnjaaGreat
