/- Mem,MapR. No condition beyond theirs. -/
import Derived.WalkKit
import Derived.Maps.Own
import Derived.Maps.OwnOps
import Derived.Deep.Draws
import Derived.Lib.Hide
import Derived.Test.YtpnlnbolhkcnjaaGreatRows
import Derived.Maps.RangeWalk
set_option linter.unusedSectionVars false
set_option linter.unusedSimpArgs false
set_option linter.unusedVariables false
set_option maxHeartbeats 1000000
namespace Go.Proofs.YtpnlnbolhkcnjaaGreat.mem
open Go.RowKit
structure TouchB (S:Nat→Prop) (w w':World):Prop where
 os:w'.os = w.os
 tape:w'.tape = w.tape
 output:w'.output = w.output
 size:w.heap.size ≤ w'.heap.size
 block:∀ k,k < w.heap.size→¬ S k→w'.heap[k]? = w.heap[k]?
theorem TouchB.refl (S:Nat→Prop) (w:World):TouchB S w w:=⟨rfl,rfl,rfl,Nat.le_refl _,fun _ _ _=>rfl⟩
theorem TouchB.trans {S:Nat→Prop} {a b c:World} (h:TouchB S a b) {S':Nat→Prop} (k:TouchB S' b c) (hs:∀ i,i < a.heap.size→S' i→S i):TouchB S a c :=
 ⟨k.os.trans h.os,k.tape.trans h.tape,k.output.trans h.output,Nat.le_trans h.size k.size,fun i hi hn=>(k.block i (Nat.lt_of_lt_of_le hi h.size) (fun e=>hn (hs i hi e))).trans (h.block i hi hn)⟩
theorem TouchB.mono {S S':Nat→Prop} {a b:World} (h:TouchB S a b) (hs:∀ i,i < a.heap.size→S i→S' i):TouchB S' a b :=
 ⟨h.os,h.tape,h.output,h.size,fun i hi hn=>h.block i hi (fun e=>hn (hs i hi e))⟩
theorem TouchB.alloc {S:Nat→Prop} {a b:World} (h:TouchB S a b) (o:Obj):TouchB S a (b.alloc o) :=
 h.trans (S':=fun _=>False) ⟨rfl,rfl,rfl,by simp,fun k hk _=>Below.heap_alloc _ _ _ hk⟩ (fun _ _ f=>f.elim)
theorem TouchB.drew {S:Nat→Prop} {a b:World} (h:TouchB S a b):TouchB S a b.drew:=⟨h.os,h.tape,h.output,h.size,h.block⟩
theorem TouchB.drewN {S:Nat→Prop} {a b:World} (h:TouchB S a b) (n:Nat):TouchB S a (b.drewN n):=⟨h.os,h.tape,h.output,h.size,h.block⟩
theorem TouchB.setCell {S:Nat→Prop} {a b:World} (h:TouchB S a b) (p:Addr) (u:Value) (hp:p.block < a.heap.size→S p.block):TouchB S a (b.setCell p u) :=
 h.trans (S':=fun k=>k = p.block) ⟨rfl,rfl,rfl,by simp,fun k _ hn=>Below.heap_setCell _ _ _ _ hn⟩ (fun i hi e=>by subst e;exact hp hi)
theorem TouchB.grown {S:Nat→Prop} {a b c:World} (h:TouchB S a b) {row:Option Nat} (hg:b.grownBy c row) (hr:∀ k,row = some k→k < a.heap.size→S k):TouchB S a c :=
 h.trans (S':=fun k=>row = some k) ⟨hg.os,hg.tape,hg.output,hg.size,fun k hk hn=>hg.block k hk (fun e=>hn e.symm)⟩ (fun i hi e=>hr i e hi)
theorem TouchB.below {S:Nat→Prop} {a b:World} (h:TouchB S a b) {B:Nat} (hS:∀ k,S k→B ≤ k) (hB:B ≤ a.heap.size):Below B a b :=
 ⟨h.os,h.tape,h.output,h.size,fun k hk=>h.block k (by omega) (fun e=>by have:=hS k e;omega)⟩
theorem TouchB.ofBelow {S:Nat→Prop} {a b c:World} (h:TouchB S a b) {B:Nat} (hb:Below B b c) (hB:a.heap.size ≤ B):TouchB S a c :=
 h.trans (S':=fun k=>B ≤ k) ⟨hb.os,hb.tape,hb.output,hb.size,fun k hk hn=>hb.block k (by omega)⟩ (fun i hi e=>absurd hi (by omega))
theorem TouchB.cell {S:Nat→Prop} {a b:World} (h:TouchB S a b) {p:Addr} (hp:p.block < a.heap.size) (hn:¬ S p.block):b.cell? p = a.cell? p :=
 World.cell?_of_block (w:=a) (h.block p.block hp hn)
theorem TouchB.frozen {S:Nat→Prop} {a b:World} (h:TouchB S a b) {p:Addr} (hp:p.block < a.heap.size) (hn:¬ S p.block):b.frozen? p = a.frozen? p :=
 World.frozen?_of_block (w:=a) (h.block p.block hp hn)
theorem row_same {w w':World} {base:Nat} {e:TypeId} {size:Nat} {v:Value} {n:Nat} {xs:List Value} (h:w.ownsRow base e size v n xs) (hk:∀ k,v.ownBlock = some k→w'.heap[k]? = w.heap[k]?) :
 w'.ownsRow base e size v n xs:=by
 obtain ⟨hl,h | ⟨g,cap,cur,rfl,hb,hh,r⟩⟩:=h
 ·exact ⟨hl,.inl h⟩
 ·exact ⟨hl,.inr ⟨g,cap,cur,rfl,hb,by rw [hk g rfl];exact hh,r⟩⟩
theorem row_base {w:World} {base base':Nat} {e:TypeId} {size:Nat} {v:Value} {n:Nat} {xs:List Value} (h:w.ownsRow base e size v n xs) (hb:∀ k,v.ownBlock = some k→base' ≤ k) :
 w.ownsRow base' e size v n xs:=by
 obtain ⟨hl,h | ⟨g,cap,cur,rfl,hb',r⟩⟩:=h
 ·exact ⟨hl,.inl h⟩
 ·exact ⟨hl,.inr ⟨g,cap,cur,rfl,hb g rfl,r⟩⟩
section
variable {κ:Type} [DecidableEq κ]
def MapIs (toV:κ→Value) (w:World) (m:Nat) (kvs:List (κ × Value)):Prop :=
 ∃ es clock,w.heap[m]? = some (.map es clock)∧es.toList.map (fun e=>(e.key,e.val)) = kvs.map (fun p=>(toV p.1,p.2))
theorem MapIs.lt {toV:κ→Value} {w:World} {m:Nat} {kvs:List (κ × Value)} (h:MapIs toV w m kvs):m < w.heap.size:=by
 obtain ⟨es,clock,hh,_⟩:=h;exact (Array.getElem?_eq_some_iff.1 hh).1
theorem MapIs.same {toV:κ→Value} {w w':World} {m:Nat} {kvs:List (κ × Value)} (h:MapIs toV w m kvs) (hs:w'.heap[m]? = w.heap[m]?):MapIs toV w' m kvs:=by
 obtain ⟨es,clock,hh,r⟩:=h;exact ⟨es,clock,hs.trans hh,r⟩
theorem MapIs.made (toV:κ→Value) (w:World):MapIs toV (w.alloc (.map #[] 0)) w.heap.size [] :=
 ⟨#[],0,(MapKept.heap_alloc w _).1,rfl⟩
structure KeyKind (P:Program) (kt:TypeId) (toV:κ→Value):Prop where
 kind:∃ d,P.underlying kt = some d∧(d = .string∨(∃ k,d = .int k)∨d = .bool)∧∀ a b,Instr.sameNow d (toV a) (toV b) = some (decide (a = b))
 bits:∀ a,Instr.sameBits 10000 (toV a) (toV a) = true
theorem findNow_eq {d:TypeDesc} {toV:κ→Value} (hd:∀ a b,Instr.sameNow d (toV a) (toV b) = some (decide (a = b))) (k:κ) :
 ∀ (es:List MapEntry) (kvs:List (κ × Value)) (i:Nat),es.map (fun e=>(e.key,e.val)) = kvs.map (fun p=>(toV p.1,p.2)) →
 Instr.findNow d (toV k) es i = some ((kvs.findIdx? (fun p=>decide (k = p.1))).map (fun j=>(i + j,((kvs[j]?).map (·.2)).getD undef))):=by
 intro es
 induction es with
 | nil =>
  intro kvs i h;cases kvs with
  | nil=>rfl
  | cons _ _=>simp at h
 | cons e es ih =>
  intro kvs i h;cases kvs with
  | nil=>simp at h
  | cons p kvs =>
   simp only [List.map_cons,List.cons.injEq,Prod.mk.injEq] at h;obtain ⟨⟨h1,h2⟩,h3⟩:=h;simp only [Instr.findNow,h1,hd]
   by_cases hk:k = p.1
   ·simp [hk,List.findIdx?_cons,h2]
   ·simp only [hk,decide_false];rw [ih kvs (i + 1) h3,List.findIdx?_cons];simp [hk];cases List.findIdx? (fun p=>decide (k = p.1)) kvs <;> simp;omega
def alFind (kvs:List (κ × Value)) (k:κ):Option Value:=(kvs.find? (fun p=>decide (k = p.1))).map (·.2)
def alIdx (kvs:List (κ × Value)) (k:κ):Option Nat:=kvs.findIdx? (fun p=>decide (k = p.1))
def alPut (kvs:List (κ × Value)) (k:κ) (v:Value):List (κ × Value) :=
 match alIdx kvs k with
 | some i=>kvs.modify i (fun p=>(p.1,v))
 | none=>kvs ++ [(k,v)]
theorem alFind_idx (kvs:List (κ × Value)) (k:κ):(alIdx kvs k).map (fun j=>((kvs[j]?).map (·.2)).getD undef) = alFind kvs k:=by
 unfold alIdx alFind
 induction kvs with
 | nil=>rfl
 | cons p kvs ih =>
  rw [List.findIdx?_cons,List.find?_cons]
  by_cases hk:k = p.1
  ·simp [hk]
  ·simp only [hk,decide_false,Bool.false_eq_true,if_false];rw [← ih];cases List.findIdx? (fun p=>decide (k = p.1)) kvs <;> simp
theorem run_checkKey {P:Program} {kt:TypeId} {d:TypeDesc} (h:P.underlying kt = some d) (hd:d = .string∨(∃ k,d = .int k)∨d = .bool) (b:Bool) (v:Value) (w:World) :
 (Instr.checkKey b 10000 kt v).run P w = .ok () w:=by
 have g:∀ n,(Instr.checkKey b (n + 1) kt v).run P w = .ok () w:=by
  intro n;rcases hd with rfl | ⟨k,rfl⟩ | rfl
  all_goals simp [Instr.checkKey,run_underlying h]
 exact g 9999
theorem run_findKey {P:Program} {kt:TypeId} {toV:κ→Value} (K:KeyKind P kt toV) (k:κ) (es:List MapEntry) (kvs:List (κ × Value)) (h:es.map (fun e=>(e.key,e.val)) = kvs.map (fun p=>(toV p.1,p.2))) (w:World) :
 (Instr.findKey kt (toV k) es).run P w = .ok ((alIdx kvs k).map (fun j=>(j,((kvs[j]?).map (·.2)).getD undef))) w:=by
 obtain ⟨d,hd,hdd,hs⟩:=K.kind;simp [Instr.findKey,run_underlying hd,findNow_eq hs k es kvs 0 h,alIdx]
theorem run_lookup_ok {P:Program} {t kt et:TypeId} {toV:κ→Value} (K:KeyKind P kt toV) (ht:P.underlying t = some (.map kt et)) {w:World} {m:Nat} {kvs:List (κ × Value)} (hm:MapIs toV w m kvs) (k:κ)
 {z:Value} (hz:(zeroValue et).run P w = .ok z w) :
 (Instr.lookup t (.map (some m)) (toV k) true).run P w = .ok (.tuple #[(alFind kvs k).getD z,.bool (alFind kvs k).isSome]) w:=by
 obtain ⟨es,clock,hh,he⟩:=hm;obtain ⟨d,hd,hdd,hs⟩:=K.kind;have hf:=run_findKey K k es.toList kvs he w;have hc:=run_checkKey hd hdd es.isEmpty (toV k) w;have hi:=alFind_idx kvs k;simp [Instr.lookup,run_underlying ht,getObj,Sem.run,hh,hc,hf,Result.andThen];cases hx:alIdx kvs k with
 | none=>rw [hx] at hi;simp [← hi,hz,Result.andThen]
 | some j=>rw [hx] at hi;simp [← hi]
theorem alIdx_lt {kvs:List (κ × Value)} {k:κ} {j:Nat} (h:alIdx kvs k = some j):∃ v,kvs[j]? = some (k,v):=by
 unfold alIdx at h;rw [List.findIdx?_eq_some_iff_getElem] at h;obtain ⟨hl,hk,_⟩:=h;refine ⟨kvs[j].2,?_⟩;rw [List.getElem?_eq_getElem hl];have:=of_decide_eq_true hk;rw [this]
theorem map_modify_entries (toV:κ→Value) (es:List MapEntry) (kvs:List (κ × Value)) (h:es.map (fun e=>(e.key,e.val)) = kvs.map (fun p=>(toV p.1,p.2))) (j:Nat) (k:κ) (v v0:Value) (hj:kvs[j]? = some (k,v0)) :
 (es.modify j (fun e=>{ e with key:=toV k,val:=v })).map (fun e=>(e.key,e.val)) = (kvs.modify j (fun p=>(p.1,v))).map (fun p=>(toV p.1,p.2)):=by
 induction kvs generalizing es j with
 | nil=>simp at hj
 | cons p kvs ih =>
  cases es with
  | nil=>simp at h
  | cons e es =>
   simp only [List.map_cons,List.cons.injEq] at h;cases j with
   | zero =>
    simp only [List.getElem?_cons_zero,Option.some.injEq] at hj;subst hj;simp [List.modify_zero_cons,h.2]
   | succ j =>
    simp only [List.getElem?_cons_succ] at hj;simp only [List.modify_succ_cons,List.map_cons,h.1,ih es h.2 j hj]
theorem set_touch (w:World) (m:Nat) (o:Obj):TouchB (fun k=>k = m) w { w with heap:=w.heap.setIfInBounds m o } :=
 ⟨rfl,rfl,rfl,by simp,fun k hk hn=>by
  show (w.heap.setIfInBounds m o)[k]? = _
  rw [Array.getElem?_setIfInBounds_ne (fun e=>hn e.symm)]⟩
theorem set_heap (w:World) (m:Nat) (o:Obj) (h:m < w.heap.size):({ w with heap:=w.heap.setIfInBounds m o }:World).heap[m]? = some o:=by
 show (w.heap.setIfInBounds m o)[m]? = _;rw [Array.getElem?_setIfInBounds_self_of_lt h]
theorem run_mapUpdate {P:Program} {t kt et:TypeId} {toV:κ→Value} (K:KeyKind P kt toV) (ht:P.underlying t = some (.map kt et)) {w:World} {m:Nat} {kvs:List (κ × Value)} (hm:MapIs toV w m kvs) (k:κ) (v:Value) :
 ∃ w',(Instr.mapUpdate t (.map (some m)) (toV k) v).run P w = .ok () w'∧MapIs toV w' m (alPut kvs k v)∧TouchB (fun i=>i = m) w w'∧w'.heap.size = w.heap.size:=by
 have hlt:=hm.lt;obtain ⟨es,clock,hh,he⟩:=hm;obtain ⟨d,hd,hdd,hs⟩:=K.kind;have hf:=run_findKey K k es.toList kvs he w;have hc:=run_checkKey hd hdd false (toV k) w;cases hx:alIdx kvs k with
 | none =>
  rw [hx] at hf
  refine ⟨{ w with heap:=w.heap.setIfInBounds m (.map (es.push { key:=toV k,val:=v,born:=clock }) (clock + 1)) },?_,?_,set_touch w m _,by simp⟩
  ·simp [Instr.mapUpdate,run_underlying ht,getObj,setObj,Sem.run,hh,hc,hf,Result.andThen]
  ·refine ⟨_,_,set_heap w m _ hlt,?_⟩;simp [alPut,hx,he]
 | some j =>
  rw [hx] at hf;obtain ⟨v0,hj⟩:=alIdx_lt hx;have hek:es[j]?.map (fun e=>(e.key,e.val)) = some (toV k,v0):=by
   have h1:=congrArg (fun l=>l[j]?) he;simp only [List.getElem?_map,Array.getElem?_toList,hj,Option.map_some] at h1;exact h1
  have hek':(es[j]?).map (·.key) = some (toV k):=by
   cases hh:es[j]? with
   | none=>rw [hh] at hek;simp at hek
   | some e=>rw [hh] at hek;simp only [Option.map_some,Option.some.injEq,Prod.mk.injEq] at hek;simp [hek.1]
  have hst:(Instr.keyThatStays (toV k) (toV k)).run P w = .ok (toV k) w:=by
   unfold Instr.keyThatStays;rw [if_pos (K.bits k)];rfl
  refine ⟨{ w with heap:=w.heap.setIfInBounds m (.map (es.modify j fun e=>{ e with key:=toV k,val:=v }) clock) },?_,?_,set_touch w m _,by simp⟩
  ·simp [Instr.mapUpdate,run_underlying ht,getObj,setObj,Sem.run,hh,hc,hf,Result.andThen,hek',hst]
  ·refine ⟨_,_,set_heap w m _ hlt,?_⟩;simp only [alPut,hx,Array.toList_modify];exact map_modify_entries toV es.toList kvs he j k v v0 hj
theorem wpList_mapUpdate_al {P:Program} (w:World) {ops:Array Oper} {rest:List Oper} {o:Oper} {a:Act} {Q:Exit→Act→World→Prop}
 (hg:o.guard = none) (mo xo vo:Operand) (t:TypeId) (hop:o.op = Op.mapUpdate t mo xo vo)
 {kt et:TypeId} {toV:κ→Value} (K:KeyKind P kt toV) (ht:P.underlying t = some (.map kt et)) (m:Nat) (kvs:List (κ × Value)) (hm:MapIs toV w m kvs) (k:κ) (v:Value)
 (hmo:a.eval mo = .map (some m)) (hx:a.eval xo = toV k) (hv:a.eval vo = v)
 (hK:∀ w',MapIs toV w' m (alPut kvs k v)→TouchB (fun i=>i = m) w w'→w'.heap.size = w.heap.size→wpList P ops Q rest (a.put o.dst undef) w') :
 wpList P ops Q (o :: rest) a w:=by
 refine wpList_plain hg fun K' hK'=>?_;obtain ⟨w',hrun,r1,r2,r3⟩:=run_mapUpdate K ht hm k v;unfold Oper.wp;simp [execOp,hop,hmo,hx,hv,hrun,Result.andThen];exact hK' _ _ (hK w' r1 r2 r3)
theorem bytes_beq (a b:ByteArray):(a == b) = true↔a = b:=by
 obtain ⟨a⟩:=a;obtain ⟨b⟩:=b;show (a == b) = true↔_;simp
theorem string_key {P:Program} {kt:TypeId} (h:P.underlying kt = some .string):KeyKind P kt Value.string where
 kind:=⟨.string,h,.inl rfl,fun a b=>by simp only [Instr.sameNow];congr 1;rw [Bool.eq_iff_iff,bytes_beq];simp⟩
 bits:=fun a=>by simp only [Instr.sameBits];exact (bytes_beq a a).2 rfl
theorem int_key {P:Program} {kt:TypeId} {q:IntKind} (h:P.underlying kt = some (.int q)):KeyKind P kt (Value.int q) where
 kind:=⟨.int q,h,.inr (.inl ⟨q,rfl⟩),fun a b=>by simp only [Instr.sameNow,if_true];rfl⟩
 bits:=fun a=>by simp [Instr.sameBits]
end
open Go.ChangeMaps (setBlock)
section
variable {κ:Type} [DecidableEq κ]
structure KeyAny (P:Program) (kt:TypeId) (toV:κ→Value):Prop where
 check:∀ (b:Bool) (k:κ) (w:World),(Instr.checkKey b 10000 kt (toV k)).run P w = .ok () w
 find:∀ (k:κ) (es:List MapEntry) (kvs:List (κ × Value)),es.map (fun e=>(e.key,e.val)) = kvs.map (fun p=>(toV p.1,p.2))→∀ w:World,(Instr.findKey kt (toV k) es).run P w = .ok ((alIdx kvs k).map (fun j=>(j,((kvs[j]?).map (·.2)).getD undef))) w
 bits:∀ a,Instr.sameBits 10000 (toV a) (toV a) = true
theorem KeyKind.any {P:Program} {kt:TypeId} {toV:κ→Value} (K:KeyKind P kt toV):KeyAny P kt toV:=by
 obtain ⟨d,hd,hdd,hs⟩:=K.kind;exact ⟨fun b k w=>run_checkKey hd hdd b (toV k) w,fun k es kvs h w=>run_findKey K k es kvs h w,K.bits⟩
def MapR (toV:κ→Value) (w:World) (m:Nat) (kvs:List (κ × Value)):Prop :=
 ∃ es clock,w.heap[m]? = some (.map es clock)∧es.toList.map (fun e=>(e.key,e.val)) = kvs.map (fun p=>(toV p.1,p.2))∧(∀ e ∈ es.toList,e.born < clock)∧(es.toList.map (·.born)).Nodup
theorem MapR.is {toV:κ→Value} {w:World} {m:Nat} {kvs:List (κ × Value)} (h:MapR toV w m kvs):MapIs toV w m kvs:=by
 obtain ⟨es,clock,hh,he,_⟩:=h;exact ⟨es,clock,hh,he⟩
theorem MapR.lt {toV:κ→Value} {w:World} {m:Nat} {kvs:List (κ × Value)} (h:MapR toV w m kvs):m < w.heap.size:=h.is.lt
theorem MapR.same {toV:κ→Value} {w w':World} {m:Nat} {kvs:List (κ × Value)} (h:MapR toV w m kvs) (hs:w'.heap[m]? = w.heap[m]?):MapR toV w' m kvs:=by
 obtain ⟨es,clock,hh,r⟩:=h;exact ⟨es,clock,hs.trans hh,r⟩
theorem MapR.made (toV:κ→Value) (w:World):MapR toV (w.alloc (.map #[] 0)) w.heap.size [] :=
 ⟨#[],0,(MapKept.heap_alloc w _).1,rfl,fun e h=>by simp at h,by simp⟩
theorem run_lookup_any_ok {P:Program} {t kt et:TypeId} {toV:κ→Value} (K:KeyAny P kt toV) (ht:P.underlying t = some (.map kt et)) {w:World} {m:Nat} {kvs:List (κ × Value)} (hm:MapIs toV w m kvs) (k:κ)
 {z:Value} (hz:(zeroValue et).run P w = .ok z w) :
 (Instr.lookup t (.map (some m)) (toV k) true).run P w = .ok (.tuple #[(alFind kvs k).getD z,.bool (alFind kvs k).isSome]) w:=by
 obtain ⟨es,clock,hh,he⟩:=hm;have hf:=K.find k es.toList kvs he w;have hc:=K.check es.isEmpty k w;have hi:=alFind_idx kvs k;simp [Instr.lookup,run_underlying ht,getObj,Sem.run,hh,hc,hf,Result.andThen];cases hx:alIdx kvs k with
 | none=>rw [hx] at hi;simp [← hi,hz,Result.andThen]
 | some j=>rw [hx] at hi;simp [← hi]
theorem run_lookup_any {P:Program} {t kt et:TypeId} {toV:κ→Value} (K:KeyAny P kt toV) (ht:P.underlying t = some (.map kt et)) {w:World} {m:Nat} {kvs:List (κ × Value)} (hm:MapIs toV w m kvs) (k:κ)
 {z:Value} (hz:(zeroValue et).run P w = .ok z w) :
 (Instr.lookup t (.map (some m)) (toV k) false).run P w = .ok ((alFind kvs k).getD z) w:=by
 obtain ⟨es,clock,hh,he⟩:=hm;have hf:=K.find k es.toList kvs he w;have hc:=K.check es.isEmpty k w;have hi:=alFind_idx kvs k;simp [Instr.lookup,run_underlying ht,getObj,Sem.run,hh,hc,hf,Result.andThen];cases hx:alIdx kvs k with
 | none=>rw [hx] at hi;simp [← hi,hz,Result.andThen]
 | some j=>rw [hx] at hi;simp [← hi]
theorem mem_modify {β:Type} {f:β→β}:∀ {l:List β} {j:Nat} {x:β},x ∈ l.modify j f→x ∈ l∨∃ y ∈ l,x = f y:=by
 intro l
 induction l with
 | nil=>intro j x h;simp at h
 | cons a l ih =>
  intro j x h;cases j with
  | zero =>
   rw [List.modify_zero_cons] at h
   rcases List.mem_cons.1 h with rfl | h
   ·exact .inr ⟨a,List.mem_cons_self,rfl⟩
   ·exact .inl (List.mem_cons_of_mem _ h)
  | succ j =>
   rw [List.modify_succ_cons] at h
   rcases List.mem_cons.1 h with rfl | h
   ·exact .inl List.mem_cons_self
   ·rcases ih h with h | ⟨y,hy,e⟩
    ·exact .inl (List.mem_cons_of_mem _ h)
    ·exact .inr ⟨y,List.mem_cons_of_mem _ hy,e⟩
theorem map_modify_same {β γ:Type} {f:β→β} {g:β→γ} (hf:∀ x,g (f x) = g x):∀ (l:List β) (j:Nat),(l.modify j f).map g = l.map g:=by
 intro l
 induction l with
 | nil=>intro j;simp
 | cons a l ih =>
  intro j;cases j with
  | zero=>simp [List.modify_zero_cons,hf]
  | succ j=>simp [List.modify_succ_cons,ih]
theorem run_mapUpdate_any {P:Program} {t kt et:TypeId} {toV:κ→Value} (K:KeyAny P kt toV) (ht:P.underlying t = some (.map kt et)) {w:World} {m:Nat} {kvs:List (κ × Value)} (hm:MapR toV w m kvs) (k:κ) (v:Value) :
 ∃ w',(Instr.mapUpdate t (.map (some m)) (toV k) v).run P w = .ok () w'∧MapR toV w' m (alPut kvs k v)∧TouchB (fun i=>i = m) w w'∧w'.heap.size = w.heap.size:=by
 have hlt:=hm.lt;obtain ⟨es,clock,hh,he,hb,hn⟩:=hm;have hf:=K.find k es.toList kvs he w;have hc:=K.check false k w;cases hx:alIdx kvs k with
 | none =>
  rw [hx] at hf
  refine ⟨{ w with heap:=w.heap.setIfInBounds m (.map (es.push { key:=toV k,val:=v,born:=clock }) (clock + 1)) },?_,?_,set_touch w m _,by simp⟩
  ·simp [Instr.mapUpdate,run_underlying ht,getObj,setObj,Sem.run,hh,hc,hf,Result.andThen]
  ·refine ⟨_,_,set_heap w m _ hlt,?_,?_,?_⟩
   ·simp [alPut,hx,he]
   ·intro e h;rw [Array.toList_push] at h
    rcases List.mem_append.1 h with h | h
    ·have:=hb e h;omega
    ·obtain rfl:e = { key:=toV k,val:=v,born:=clock }:=by simpa using h
     exact Nat.lt_succ_self _
   ·rw [Array.toList_push,List.map_append,List.nodup_append];refine ⟨hn,by simp,fun a ha b hb' e=>?_⟩;obtain ⟨x,hx,rfl⟩:=List.mem_map.1 ha;have h1:=hb x hx;obtain rfl:b = clock:=by simpa using hb'
    omega
 | some j =>
  rw [hx] at hf;obtain ⟨v0,hj⟩:=alIdx_lt hx;have hek:es[j]?.map (fun e=>(e.key,e.val)) = some (toV k,v0):=by
   have h1:=congrArg (fun l=>l[j]?) he;simp only [List.getElem?_map,Array.getElem?_toList,hj,Option.map_some] at h1;exact h1
  have hek':(es[j]?).map (·.key) = some (toV k):=by
   cases hh:es[j]? with
   | none=>rw [hh] at hek;simp at hek
   | some e=>rw [hh] at hek;simp only [Option.map_some,Option.some.injEq,Prod.mk.injEq] at hek;simp [hek.1]
  have hst:(Instr.keyThatStays (toV k) (toV k)).run P w = .ok (toV k) w:=by
   unfold Instr.keyThatStays;rw [if_pos (K.bits k)];rfl
  refine ⟨{ w with heap:=w.heap.setIfInBounds m (.map (es.modify j fun e=>{ e with key:=toV k,val:=v }) clock) },?_,?_,set_touch w m _,by simp⟩
  ·simp [Instr.mapUpdate,run_underlying ht,getObj,setObj,Sem.run,hh,hc,hf,Result.andThen,hek',hst]
  ·refine ⟨_,_,set_heap w m _ hlt,?_,?_,?_⟩
   ·simp only [alPut,hx,Array.toList_modify];exact map_modify_entries toV es.toList kvs he j k v v0 hj
   ·intro e h;rw [Array.toList_modify] at h
    rcases mem_modify h with h | ⟨y,hy,rfl⟩
    ·exact hb e h
    ·exact hb y hy
   ·rw [Array.toList_modify,map_modify_same (f:=fun e:MapEntry=>{ e with key:=toV k,val:=v }) (g:=fun e:MapEntry=>e.born) (fun _=>rfl)];exact hn
theorem wpList_mapUpdate_r {P:Program} (w:World) {ops:Array Oper} {rest:List Oper} {o:Oper} {a:Act} {Q:Exit→Act→World→Prop}
 (hg:o.guard = none) (mo xo vo:Operand) (t:TypeId) (hop:o.op = Op.mapUpdate t mo xo vo)
 {kt et:TypeId} {toV:κ→Value} (K:KeyAny P kt toV) (ht:P.underlying t = some (.map kt et)) (m:Nat) (kvs:List (κ × Value)) (hm:MapR toV w m kvs) (k:κ) (v:Value)
 (hmo:a.eval mo = .map (some m)) (hx:a.eval xo = toV k) (hv:a.eval vo = v)
 (hK:∀ w',MapR toV w' m (alPut kvs k v)→TouchB (fun i=>i = m) w w'→w'.heap.size = w.heap.size→wpList P ops Q rest (a.put o.dst undef) w') :
 wpList P ops Q (o :: rest) a w:=by
 refine wpList_plain hg fun K' hK'=>?_;obtain ⟨w',hrun,r1,r2,r3⟩:=run_mapUpdate_any K ht hm k v;unfold Oper.wp;simp [execOp,hop,hmo,hx,hv,hrun,Result.andThen];exact hK' _ _ (hK w' r1 r2 r3)
def RangeR (toV:κ→Value) (w:World) (m r:Nat) (kvs left:List (κ × Value)):Prop :=
 ∃ es clock since seen c0,w.heap[m]? = some (.map es clock)∧es.toList.map (fun e=>(e.key,e.val)) = kvs.map (fun p=>(toV p.1,p.2))∧(∀ e ∈ es.toList,e.born < clock)∧(es.toList.map (·.born)).Nodup ∧
  w.heap[r]? = some (.mapIter (some m) since seen c0)∧(∀ e ∈ es.toList,e.born < since)∧since ≤ c0∧since ≤ clock∧(es.toList.filter (fun e=>!seen.contains e.born)).map (fun e=>(e.key,e.val)) = left.map (fun p=>(toV p.1,p.2))
theorem RangeR.map {toV:κ→Value} {w:World} {m r:Nat} {kvs left:List (κ × Value)} (h:RangeR toV w m r kvs left):MapR toV w m kvs:=by
 obtain ⟨es,clock,since,seen,c0,h1,h2,h3,h4,_⟩:=h;exact ⟨es,clock,h1,h2,h3,h4⟩
theorem RangeR.lt {toV:κ→Value} {w:World} {m r:Nat} {kvs left:List (κ × Value)} (h:RangeR toV w m r kvs left):r < w.heap.size:=by
 obtain ⟨es,clock,since,seen,c0,_,_,_,_,h5,_⟩:=h;exact (Array.getElem?_eq_some_iff.1 h5).1
theorem RangeR.same {toV:κ→Value} {w w':World} {m r:Nat} {kvs left:List (κ × Value)} (h:RangeR toV w m r kvs left) (hm:w'.heap[m]? = w.heap[m]?) (hr:w'.heap[r]? = w.heap[r]?):RangeR toV w' m r kvs left:=by
 obtain ⟨es,clock,since,seen,c0,h1,h2,h3,h4,h5,q⟩:=h;exact ⟨es,clock,since,seen,c0,hm.trans h1,h2,h3,h4,hr.trans h5,q⟩
theorem RangeR.start {P:Program} {t kt et:TypeId} {toV:κ→Value} (ht:P.underlying t = some (.map kt et)) {w:World} {m:Nat} {kvs:List (κ × Value)} (h:MapR toV w m kvs) :
 ∃ w',(Instr.range t (.map (some m))).run P w = .ok (.pointer (some ⟨w.heap.size,0,none⟩)) w'∧RangeR toV w' m w.heap.size kvs kvs∧w.grownBy w' none∧w'.heap.size = w.heap.size + 1:=by
 have hlt:=h.lt;obtain ⟨es,clock,hb,h2,h3,h4⟩:=h;refine ⟨_,run_range_map w t kt et m es clock ht hb,⟨es,clock,clock,#[],clock,((MapKept.heap_alloc w _).2 m hlt).trans hb,h2,h3,h4,(MapKept.heap_alloc w _).1,h3,Nat.le_refl _,Nat.le_refl _,?_⟩,World.grownBy_alloc w _ none,by simp⟩;rw [← h2];congr 1;rw [List.filter_eq_self];intro e _;simp
theorem map_split {β γ δ:Type} {f:β→δ} {g:γ→δ}:∀ {A:List β} {x:β} {B:List β} {L:List γ},(A ++ x :: B).map f = L.map g→∃ L1 y L2,L = L1 ++ y :: L2∧f x = g y∧(A ++ B).map f = (L1 ++ L2).map g:=by
 intro A
 induction A with
 | nil =>
  intro x B L h;cases L with
  | nil=>simp at h
  | cons y L =>
   simp only [List.nil_append,List.map_cons,List.cons.injEq] at h;exact ⟨[],y,L,rfl,h.1,by simpa using h.2⟩
 | cons a A ih =>
  intro x B L h;cases L with
  | nil=>simp at h
  | cons z L =>
   rw [List.cons_append,List.map_cons,List.map_cons,List.cons.injEq] at h;obtain ⟨L1,y,L2,rfl,e1,e2⟩:=ih h.2;exact ⟨z :: L1,y,L2,rfl,e1,by rw [List.cons_append,List.cons_append,List.map_cons,List.map_cons,h.1,e2]⟩
theorem RangeR.next {P:Program} {toV:κ→Value} {w:World} {m r:Nat} {kvs left:List (κ × Value)} (h:RangeR toV w m r kvs left) (hne:r ≠ m) (ty:TypeId) :
 (left = []∧(Instr.next (.pointer (some ⟨r,0,none⟩)) false ty).run P w = .ok (.tuple #[.bool false]) w) ∨
 ∃ L1 k v L2 w',left = L1 ++ (k,v) :: L2∧(Instr.next (.pointer (some ⟨r,0,none⟩)) false ty).run P w = .ok (.tuple #[.bool true,toV k,v]) w'∧RangeR toV w' m r kvs (L1 ++ L2) ∧
  w.grownBy w' (some r)∧w'.heap.size = w.heap.size∧(Instr.entry (.pointer (some ⟨r,0,none⟩))).run P w' = .ok (.tuple #[toV k,v]) w':=by
 obtain ⟨es,clock,since,seen,c0,hb,h2,h3,h4,hr,hold,hsc,hsk,hl⟩:=h;have hlo:(leftOf es seen).toList = es.toList.filter (fun e=>!seen.contains e.born):=by unfold leftOf;rw [Array.toList_filter]
 rcases run_next_at (P:=P) w ty r m since c0 seen es clock hr hb hold hsc with ⟨h0,hrun⟩ | ⟨e,he,w1,hal,hrun⟩
 ·refine .inl ⟨?_,hrun⟩;have:(leftOf es seen).toList = []:=List.eq_nil_of_length_eq_zero (by rw [Array.length_toList];exact h0);rw [← hlo,this] at hl;cases left with
  | nil=>rfl
  | cons a l=>simp at hl
 ·rw [hlo] at he;have hem:e ∈ es.toList:=(List.mem_filter.1 he).1;obtain ⟨A,B,hAB⟩:=List.append_of_mem he;rw [hAB] at hl;obtain ⟨L1,y,L2,rfl,e1,e2⟩:=map_split hl;obtain ⟨k,v⟩:=y;simp only [Prod.mk.injEq] at e1;obtain ⟨e1,e1'⟩:=e1;have hr1:w1.heap[r]? = some (.mapIter (some m) since seen c0):=by rcases hal with rfl | rfl <;> exact hr
  have hb1:w1.heap[m]? = some (.map es clock):=by rcases hal with rfl | rfl <;> exact hb
  have hset:=MapKept.heap_set (o':=.mapIter (some m) since (seen.push e.born) clock) hr1;have hb':(setBlock w1 r (.mapIter (some m) since (seen.push e.born) clock)).heap[m]? = some (.map es clock):=(hset.2 m (fun e1=>hne e1.symm)).trans hb1
  refine .inr ⟨L1,k,v,L2,_,rfl,by rw [← e1,← e1'];exact hrun,⟨es,clock,since,seen.push e.born,clock,hb',h2,h3,h4,hset.1,hold,hsk,hsk,?_⟩,?_,?_,by rw [← e1,← e1'];exact run_entry_at _ r m since seen es clock e hset.1 hb' hem h4⟩
  ·rw [← e2];congr 1;have hff:es.toList.filter (fun x=>!(seen.push e.born).contains x.born) = (es.toList.filter (fun x=>!seen.contains x.born)).filter (fun x=>!(x.born == e.born)):=by
    rw [List.filter_filter];refine List.filter_congr (fun x _=>?_);rw [contains_push];cases seen.contains x.born <;> cases (x.born == e.born) <;> rfl
   rw [hff,hAB,List.filter_append,List.filter_cons];have hnd:((A ++ e :: B).map (·.born)).Nodup:=by
    rw [← hAB];exact h4.sublist ((List.filter_sublist).map _)
   rw [List.map_append,List.map_cons,List.nodup_append] at hnd;obtain ⟨_,n2,n3⟩:=hnd;have n4:=(List.nodup_cons.1 n2).1;rw [if_neg (by simp)]
   congr 1
   ·rw [List.filter_eq_self];intro x hx;have:=n3 x.born (List.mem_map.2 ⟨x,hx,rfl⟩) e.born List.mem_cons_self;simpa using this
   ·rw [List.filter_eq_self];intro x hx;have:x.born ≠ e.born:=fun eq=>n4 (eq ▸ List.mem_map.2 ⟨x,hx,rfl⟩);simpa using this
  ·rcases hal with rfl | rfl <;> exact ⟨rfl,rfl,rfl,by simp [setBlock],fun i _ hi=>hset.2 i (fun e1=>hi (by rw [e1]))⟩
  ·rcases hal with rfl | rfl <;> simp [setBlock]
end
end Go.Proofs.YtpnlnbolhkcnjaaGreat.mem
