/- Mem,TmA,Rec. No condition beyond theirs. -/
import Derived.WalkKit
import Derived.Maps.Own
import Derived.Maps.OwnOps
import Derived.Deep.Draws
import Derived.Lib.Hide
import Derived.Test.YtpnlnbolhkcnjaaGreatRows
import Derived.Maps.AppendAt
set_option linter.unusedSectionVars false
set_option linter.unusedSimpArgs false
set_option linter.unusedVariables false
set_option maxHeartbeats 1000000
set_option maxRecDepth 100000
namespace Go.Proofs.YtpnlnbolhkcnjaaGreat
namespace mem
open Go.RowKit
structure TouchB (S:Nat→Prop) (w w':World):Prop where
 os:w'.os = w.os
 tape:w'.tape = w.tape
 output:w'.output = w.output
 size:w.heap.size ≤ w'.heap.size
 block:∀ k,k < w.heap.size→¬ S k→w'.heap[k]? = w.heap[k]?
theorem TouchB.refl (S:Nat→Prop) (w:World):TouchB S w w:=⟨rfl,rfl,rfl,Nat.le_refl _,fun _ _ _=>rfl⟩
theorem TouchB.trans {S:Nat→Prop} {a b c:World} (h:TouchB S a b) {S':Nat→Prop} (k:TouchB S' b c) (hs:∀ i,i < a.heap.size→S' i→S i):TouchB S a c :=
 ⟨k.os.trans h.os,k.tape.trans h.tape,k.output.trans h.output,Nat.le_trans h.size k.size,fun i hi hn=>(k.block i (Nat.lt_of_lt_of_le hi h.size) (fun e=>hn (hs i hi e))).trans (h.block i hi hn)⟩
theorem TouchB.mono {S S':Nat→Prop} {a b:World} (h:TouchB S a b) (hs:∀ i,i < a.heap.size→S i→S' i):TouchB S' a b :=
 ⟨h.os,h.tape,h.output,h.size,fun i hi hn=>h.block i hi (fun e=>hn (hs i hi e))⟩
theorem TouchB.alloc {S:Nat→Prop} {a b:World} (h:TouchB S a b) (o:Obj):TouchB S a (b.alloc o) :=
 h.trans (S':=fun _=>False) ⟨rfl,rfl,rfl,by simp,fun k hk _=>Below.heap_alloc _ _ _ hk⟩ (fun _ _ f=>f.elim)
theorem TouchB.drew {S:Nat→Prop} {a b:World} (h:TouchB S a b):TouchB S a b.drew:=⟨h.os,h.tape,h.output,h.size,h.block⟩
theorem TouchB.drewN {S:Nat→Prop} {a b:World} (h:TouchB S a b) (n:Nat):TouchB S a (b.drewN n):=⟨h.os,h.tape,h.output,h.size,h.block⟩
theorem TouchB.setCell {S:Nat→Prop} {a b:World} (h:TouchB S a b) (p:Addr) (u:Value) (hp:p.block < a.heap.size→S p.block):TouchB S a (b.setCell p u) :=
 h.trans (S':=fun k=>k = p.block) ⟨rfl,rfl,rfl,by simp,fun k _ hn=>Below.heap_setCell _ _ _ _ hn⟩ (fun i hi e=>by subst e;exact hp hi)
theorem TouchB.grown {S:Nat→Prop} {a b c:World} (h:TouchB S a b) {row:Option Nat} (hg:b.grownBy c row) (hr:∀ k,row = some k→k < a.heap.size→S k):TouchB S a c :=
 h.trans (S':=fun k=>row = some k) ⟨hg.os,hg.tape,hg.output,hg.size,fun k hk hn=>hg.block k hk (fun e=>hn e.symm)⟩ (fun i hi e=>hr i e hi)
theorem TouchB.below {S:Nat→Prop} {a b:World} (h:TouchB S a b) {B:Nat} (hS:∀ k,S k→B ≤ k) (hB:B ≤ a.heap.size):Below B a b :=
 ⟨h.os,h.tape,h.output,h.size,fun k hk=>h.block k (by omega) (fun e=>by have:=hS k e;omega)⟩
theorem TouchB.ofBelow {S:Nat→Prop} {a b c:World} (h:TouchB S a b) {B:Nat} (hb:Below B b c) (hB:a.heap.size ≤ B):TouchB S a c :=
 h.trans (S':=fun k=>B ≤ k) ⟨hb.os,hb.tape,hb.output,hb.size,fun k hk hn=>hb.block k (by omega)⟩ (fun i hi e=>absurd hi (by omega))
theorem TouchB.cell {S:Nat→Prop} {a b:World} (h:TouchB S a b) {p:Addr} (hp:p.block < a.heap.size) (hn:¬ S p.block):b.cell? p = a.cell? p :=
 World.cell?_of_block (w:=a) (h.block p.block hp hn)
theorem TouchB.frozen {S:Nat→Prop} {a b:World} (h:TouchB S a b) {p:Addr} (hp:p.block < a.heap.size) (hn:¬ S p.block):b.frozen? p = a.frozen? p :=
 World.frozen?_of_block (w:=a) (h.block p.block hp hn)
theorem row_same {w w':World} {base:Nat} {e:TypeId} {size:Nat} {v:Value} {n:Nat} {xs:List Value} (h:w.ownsRow base e size v n xs) (hk:∀ k,v.ownBlock = some k→w'.heap[k]? = w.heap[k]?) :
 w'.ownsRow base e size v n xs:=by
 obtain ⟨hl,h | ⟨g,cap,cur,rfl,hb,hh,r⟩⟩:=h
 ·exact ⟨hl,.inl h⟩
 ·exact ⟨hl,.inr ⟨g,cap,cur,rfl,hb,by rw [hk g rfl];exact hh,r⟩⟩
theorem row_base {w:World} {base base':Nat} {e:TypeId} {size:Nat} {v:Value} {n:Nat} {xs:List Value} (h:w.ownsRow base e size v n xs) (hb:∀ k,v.ownBlock = some k→base' ≤ k) :
 w.ownsRow base' e size v n xs:=by
 obtain ⟨hl,h | ⟨g,cap,cur,rfl,hb',r⟩⟩:=h
 ·exact ⟨hl,.inl h⟩
 ·exact ⟨hl,.inr ⟨g,cap,cur,rfl,hb g rfl,r⟩⟩
section
variable {κ:Type} [DecidableEq κ]
def MapIs (toV:κ→Value) (w:World) (m:Nat) (kvs:List (κ × Value)):Prop :=
 ∃ es clock,w.heap[m]? = some (.map es clock)∧es.toList.map (fun e=>(e.key,e.val)) = kvs.map (fun p=>(toV p.1,p.2))
theorem MapIs.lt {toV:κ→Value} {w:World} {m:Nat} {kvs:List (κ × Value)} (h:MapIs toV w m kvs):m < w.heap.size:=by
 obtain ⟨es,clock,hh,_⟩:=h;exact (Array.getElem?_eq_some_iff.1 hh).1
theorem MapIs.same {toV:κ→Value} {w w':World} {m:Nat} {kvs:List (κ × Value)} (h:MapIs toV w m kvs) (hs:w'.heap[m]? = w.heap[m]?):MapIs toV w' m kvs:=by
 obtain ⟨es,clock,hh,r⟩:=h;exact ⟨es,clock,hs.trans hh,r⟩
theorem MapIs.made (toV:κ→Value) (w:World):MapIs toV (w.alloc (.map #[] 0)) w.heap.size [] :=
 ⟨#[],0,(MapKept.heap_alloc w _).1,rfl⟩
structure KeyKind (P:Program) (kt:TypeId) (toV:κ→Value):Prop where
 kind:∃ d,P.underlying kt = some d∧(d = .string∨(∃ k,d = .int k)∨d = .bool)∧∀ a b,Instr.sameNow d (toV a) (toV b) = some (decide (a = b))
 bits:∀ a,Instr.sameBits 10000 (toV a) (toV a) = true
theorem findNow_eq {d:TypeDesc} {toV:κ→Value} (hd:∀ a b,Instr.sameNow d (toV a) (toV b) = some (decide (a = b))) (k:κ) :
 ∀ (es:List MapEntry) (kvs:List (κ × Value)) (i:Nat),es.map (fun e=>(e.key,e.val)) = kvs.map (fun p=>(toV p.1,p.2)) →
 Instr.findNow d (toV k) es i = some ((kvs.findIdx? (fun p=>decide (k = p.1))).map (fun j=>(i + j,((kvs[j]?).map (·.2)).getD undef))):=by
 intro es
 induction es with
 | nil =>
  intro kvs i h;cases kvs with
  | nil=>rfl
  | cons _ _=>simp at h
 | cons e es ih =>
  intro kvs i h;cases kvs with
  | nil=>simp at h
  | cons p kvs =>
   simp only [List.map_cons,List.cons.injEq,Prod.mk.injEq] at h;obtain ⟨⟨h1,h2⟩,h3⟩:=h;simp only [Instr.findNow,h1,hd]
   by_cases hk:k = p.1
   ·simp [hk,List.findIdx?_cons,h2]
   ·simp only [hk,decide_false];rw [ih kvs (i + 1) h3,List.findIdx?_cons];simp [hk];cases List.findIdx? (fun p=>decide (k = p.1)) kvs <;> simp;omega
def alFind (kvs:List (κ × Value)) (k:κ):Option Value:=(kvs.find? (fun p=>decide (k = p.1))).map (·.2)
def alIdx (kvs:List (κ × Value)) (k:κ):Option Nat:=kvs.findIdx? (fun p=>decide (k = p.1))
def alPut (kvs:List (κ × Value)) (k:κ) (v:Value):List (κ × Value) :=
 match alIdx kvs k with
 | some i=>kvs.modify i (fun p=>(p.1,v))
 | none=>kvs ++ [(k,v)]
theorem alFind_idx (kvs:List (κ × Value)) (k:κ):(alIdx kvs k).map (fun j=>((kvs[j]?).map (·.2)).getD undef) = alFind kvs k:=by
 unfold alIdx alFind
 induction kvs with
 | nil=>rfl
 | cons p kvs ih =>
  rw [List.findIdx?_cons,List.find?_cons]
  by_cases hk:k = p.1
  ·simp [hk]
  ·simp only [hk,decide_false,Bool.false_eq_true,if_false];rw [← ih];cases List.findIdx? (fun p=>decide (k = p.1)) kvs <;> simp
theorem run_checkKey {P:Program} {kt:TypeId} {d:TypeDesc} (h:P.underlying kt = some d) (hd:d = .string∨(∃ k,d = .int k)∨d = .bool) (b:Bool) (v:Value) (w:World) :
 (Instr.checkKey b 10000 kt v).run P w = .ok () w:=by
 have g:∀ n,(Instr.checkKey b (n + 1) kt v).run P w = .ok () w:=by
  intro n;rcases hd with rfl | ⟨k,rfl⟩ | rfl
  all_goals simp [Instr.checkKey,run_underlying h]
 exact g 9999
theorem run_findKey {P:Program} {kt:TypeId} {toV:κ→Value} (K:KeyKind P kt toV) (k:κ) (es:List MapEntry) (kvs:List (κ × Value)) (h:es.map (fun e=>(e.key,e.val)) = kvs.map (fun p=>(toV p.1,p.2))) (w:World) :
 (Instr.findKey kt (toV k) es).run P w = .ok ((alIdx kvs k).map (fun j=>(j,((kvs[j]?).map (·.2)).getD undef))) w:=by
 obtain ⟨d,hd,hdd,hs⟩:=K.kind;simp [Instr.findKey,run_underlying hd,findNow_eq hs k es kvs 0 h,alIdx]
theorem run_lookup_ok {P:Program} {t kt et:TypeId} {toV:κ→Value} (K:KeyKind P kt toV) (ht:P.underlying t = some (.map kt et)) {w:World} {m:Nat} {kvs:List (κ × Value)} (hm:MapIs toV w m kvs) (k:κ)
 {z:Value} (hz:(zeroValue et).run P w = .ok z w) :
 (Instr.lookup t (.map (some m)) (toV k) true).run P w = .ok (.tuple #[(alFind kvs k).getD z,.bool (alFind kvs k).isSome]) w:=by
 obtain ⟨es,clock,hh,he⟩:=hm;obtain ⟨d,hd,hdd,hs⟩:=K.kind;have hf:=run_findKey K k es.toList kvs he w;have hc:=run_checkKey hd hdd es.isEmpty (toV k) w;have hi:=alFind_idx kvs k;simp [Instr.lookup,run_underlying ht,getObj,Sem.run,hh,hc,hf,Result.andThen];cases hx:alIdx kvs k with
 | none=>rw [hx] at hi;simp [← hi,hz,Result.andThen]
 | some j=>rw [hx] at hi;simp [← hi]
theorem alIdx_lt {kvs:List (κ × Value)} {k:κ} {j:Nat} (h:alIdx kvs k = some j):∃ v,kvs[j]? = some (k,v):=by
 unfold alIdx at h;rw [List.findIdx?_eq_some_iff_getElem] at h;obtain ⟨hl,hk,_⟩:=h;refine ⟨kvs[j].2,?_⟩;rw [List.getElem?_eq_getElem hl];have:=of_decide_eq_true hk;rw [this]
theorem map_modify_entries (toV:κ→Value) (es:List MapEntry) (kvs:List (κ × Value)) (h:es.map (fun e=>(e.key,e.val)) = kvs.map (fun p=>(toV p.1,p.2))) (j:Nat) (k:κ) (v v0:Value) (hj:kvs[j]? = some (k,v0)) :
 (es.modify j (fun e=>{ e with key:=toV k,val:=v })).map (fun e=>(e.key,e.val)) = (kvs.modify j (fun p=>(p.1,v))).map (fun p=>(toV p.1,p.2)):=by
 induction kvs generalizing es j with
 | nil=>simp at hj
 | cons p kvs ih =>
  cases es with
  | nil=>simp at h
  | cons e es =>
   simp only [List.map_cons,List.cons.injEq] at h;cases j with
   | zero =>
    simp only [List.getElem?_cons_zero,Option.some.injEq] at hj;subst hj;simp [List.modify_zero_cons,h.2]
   | succ j =>
    simp only [List.getElem?_cons_succ] at hj;simp only [List.modify_succ_cons,List.map_cons,h.1,ih es h.2 j hj]
theorem set_touch (w:World) (m:Nat) (o:Obj):TouchB (fun k=>k = m) w { w with heap:=w.heap.setIfInBounds m o } :=
 ⟨rfl,rfl,rfl,by simp,fun k hk hn=>by
  show (w.heap.setIfInBounds m o)[k]? = _
  rw [Array.getElem?_setIfInBounds_ne (fun e=>hn e.symm)]⟩
theorem set_heap (w:World) (m:Nat) (o:Obj) (h:m < w.heap.size):({ w with heap:=w.heap.setIfInBounds m o }:World).heap[m]? = some o:=by
 show (w.heap.setIfInBounds m o)[m]? = _;rw [Array.getElem?_setIfInBounds_self_of_lt h]
theorem run_mapUpdate {P:Program} {t kt et:TypeId} {toV:κ→Value} (K:KeyKind P kt toV) (ht:P.underlying t = some (.map kt et)) {w:World} {m:Nat} {kvs:List (κ × Value)} (hm:MapIs toV w m kvs) (k:κ) (v:Value) :
 ∃ w',(Instr.mapUpdate t (.map (some m)) (toV k) v).run P w = .ok () w'∧MapIs toV w' m (alPut kvs k v)∧TouchB (fun i=>i = m) w w'∧w'.heap.size = w.heap.size:=by
 have hlt:=hm.lt;obtain ⟨es,clock,hh,he⟩:=hm;obtain ⟨d,hd,hdd,hs⟩:=K.kind;have hf:=run_findKey K k es.toList kvs he w;have hc:=run_checkKey hd hdd false (toV k) w;cases hx:alIdx kvs k with
 | none =>
  rw [hx] at hf
  refine ⟨{ w with heap:=w.heap.setIfInBounds m (.map (es.push { key:=toV k,val:=v,born:=clock }) (clock + 1)) },?_,?_,set_touch w m _,by simp⟩
  ·simp [Instr.mapUpdate,run_underlying ht,getObj,setObj,Sem.run,hh,hc,hf,Result.andThen]
  ·refine ⟨_,_,set_heap w m _ hlt,?_⟩;simp [alPut,hx,he]
 | some j =>
  rw [hx] at hf;obtain ⟨v0,hj⟩:=alIdx_lt hx;have hek:es[j]?.map (fun e=>(e.key,e.val)) = some (toV k,v0):=by
   have h1:=congrArg (fun l=>l[j]?) he;simp only [List.getElem?_map,Array.getElem?_toList,hj,Option.map_some] at h1;exact h1
  have hek':(es[j]?).map (·.key) = some (toV k):=by
   cases hh:es[j]? with
   | none=>rw [hh] at hek;simp at hek
   | some e=>rw [hh] at hek;simp only [Option.map_some,Option.some.injEq,Prod.mk.injEq] at hek;simp [hek.1]
  have hst:(Instr.keyThatStays (toV k) (toV k)).run P w = .ok (toV k) w:=by
   unfold Instr.keyThatStays;rw [if_pos (K.bits k)];rfl
  refine ⟨{ w with heap:=w.heap.setIfInBounds m (.map (es.modify j fun e=>{ e with key:=toV k,val:=v }) clock) },?_,?_,set_touch w m _,by simp⟩
  ·simp [Instr.mapUpdate,run_underlying ht,getObj,setObj,Sem.run,hh,hc,hf,Result.andThen,hek',hst]
  ·refine ⟨_,_,set_heap w m _ hlt,?_⟩;simp only [alPut,hx,Array.toList_modify];exact map_modify_entries toV es.toList kvs he j k v v0 hj
theorem wpList_mapUpdate_al {P:Program} (w:World) {ops:Array Oper} {rest:List Oper} {o:Oper} {a:Act} {Q:Exit→Act→World→Prop}
 (hg:o.guard = none) (mo xo vo:Operand) (t:TypeId) (hop:o.op = Op.mapUpdate t mo xo vo)
 {kt et:TypeId} {toV:κ→Value} (K:KeyKind P kt toV) (ht:P.underlying t = some (.map kt et)) (m:Nat) (kvs:List (κ × Value)) (hm:MapIs toV w m kvs) (k:κ) (v:Value)
 (hmo:a.eval mo = .map (some m)) (hx:a.eval xo = toV k) (hv:a.eval vo = v)
 (hK:∀ w',MapIs toV w' m (alPut kvs k v)→TouchB (fun i=>i = m) w w'→w'.heap.size = w.heap.size→wpList P ops Q rest (a.put o.dst undef) w') :
 wpList P ops Q (o :: rest) a w:=by
 refine wpList_plain hg fun K' hK'=>?_;obtain ⟨w',hrun,r1,r2,r3⟩:=run_mapUpdate K ht hm k v;unfold Oper.wp;simp [execOp,hop,hmo,hx,hv,hrun,Result.andThen];exact hK' _ _ (hK w' r1 r2 r3)
theorem bytes_beq (a b:ByteArray):(a == b) = true↔a = b:=by
 obtain ⟨a⟩:=a;obtain ⟨b⟩:=b;show (a == b) = true↔_;simp
theorem string_key {P:Program} {kt:TypeId} (h:P.underlying kt = some .string):KeyKind P kt Value.string where
 kind:=⟨.string,h,.inl rfl,fun a b=>by simp only [Instr.sameNow];congr 1;rw [Bool.eq_iff_iff,bytes_beq];simp⟩
 bits:=fun a=>by simp only [Instr.sameBits];exact (bytes_beq a a).2 rfl
theorem int_key {P:Program} {kt:TypeId} {q:IntKind} (h:P.underlying kt = some (.int q)):KeyKind P kt (Value.int q) where
 kind:=⟨.int q,h,.inr (.inl ⟨q,rfl⟩),fun a b=>by simp only [Instr.sameNow,if_true];rfl⟩
 bits:=fun a=>by simp [Instr.sameBits]
end
end mem
namespace tm
open Go.RowKit mem
structure TF where
 kind:Int
 int:Int
 gen:Int
 name:ByteArray
 func:ByteArray
 arity:Int
 bytes:ByteArray
 bits:Int
def Tm:Nat→Type
 | 0=>Empty
 | n + 1=>TF × List (Tm n)
def Tm.f {n:Nat} (t:Tm (n + 1)):TF:=Prod.fst t
def Tm.items {n:Nat} (t:Tm (n + 1)):List (Tm n):=Prod.snd t
def Tm.mk {n:Nat} (f:TF) (l:List (Tm n)):Tm (n + 1):=(f,l)
theorem Tm.ext {n:Nat} {a b:Tm (n + 1)} (h1:a.f = b.f) (h2:a.items = b.items):a = b:=Prod.ext h1 h2
theorem Tm.nil0 (l:List (Tm 0)):l = []:=by
 cases l with
 | nil=>rfl
 | cons a l=>exact (nomatch (show Empty from a))
def aggV (f:TF) (v:Value):Value:=.agg #[.int .i64 f.kind,.int .i64 f.int,.int .i64 f.gen,.string f.name,.string f.func,.int .i64 f.arity,v,.string f.bytes,.int .i64 f.bits]
structure Cells (w:World) (g o:Nat) (f:TF) (v:Value):Prop where
 c0:w.cell? ⟨g,o,none⟩ = some (.int .i64 f.kind)
 c1:w.cell? ⟨g,o + 1,none⟩ = some (.int .i64 f.int)
 c2:w.cell? ⟨g,o + 1 + 1,none⟩ = some (.int .i64 f.gen)
 c3:w.cell? ⟨g,o + 1 + 1 + 1,none⟩ = some (.string f.name)
 c4:w.cell? ⟨g,o + 1 + 1 + 1 + 1,none⟩ = some (.string f.func)
 c5:w.cell? ⟨g,o + 1 + 1 + 1 + 1 + 1,none⟩ = some (.int .i64 f.arity)
 c6:w.cell? ⟨g,o + 1 + 1 + 1 + 1 + 1 + 1,none⟩ = some v
 c7:w.cell? ⟨g,o + 1 + 1 + 1 + 1 + 1 + 1 + 1,none⟩ = some (.string f.bytes)
 c8:w.cell? ⟨g,o + 1 + 1 + 1 + 1 + 1 + 1 + 1 + 1,none⟩ = some (.int .i64 f.bits)
theorem Cells.same {w w':World} {g o:Nat} {f:TF} {v:Value} (h:Cells w g o f v) (hs:w'.heap[g]? = w.heap[g]?):Cells w' g o f v:=by
 have e:∀ x,w'.cell? ⟨g,x,none⟩ = w.cell? ⟨g,x,none⟩:=fun x=>World.cell?_of_block (w:=w) (w':=w') (a:=⟨g,x,none⟩) hs;exact ⟨(e _).trans h.c0,(e _).trans h.c1,(e _).trans h.c2,(e _).trans h.c3,(e _).trans h.c4,(e _).trans h.c5,(e _).trans h.c6,(e _).trans h.c7,(e _).trans h.c8⟩
def ItemsAt (w:World) (B:Nat):(n:Nat)→Value→List (Tm n)→Prop
 | 0,v,_=>∃ p c,v = .slice p 0 c∧c ≤ maxLen
 | n + 1,v,l=>∃ p c,v = .slice p l.length c∧l.length ≤ c∧c ≤ maxLen∧(l ≠ []→∃ g o,p = some ⟨g,o,none⟩∧g < B ∧
  ∀ j,(h:j < l.length)→∃ u,Cells w g (o + j * 9) (l[j]).f u∧ItemsAt w B n u (l[j]).items)
theorem ItemsAt.shape {w:World} {B n:Nat} {v:Value} {l:List (Tm n)} (h:ItemsAt w B n v l):∃ p c,v = .slice p l.length c∧l.length ≤ c∧c ≤ maxLen:=by
 cases n with
 | zero =>
  obtain ⟨p,c,rfl,hc⟩:=h;have:=Tm.nil0 l;subst this;exact ⟨p,c,rfl,Nat.zero_le _,hc⟩
 | succ n=>obtain ⟨p,c,e,h1,h2,_⟩:=h;exact ⟨p,c,e,h1,h2⟩
theorem ItemsAt.same {w w':World} {B:Nat} (hs:∀ g,g < B→w'.heap[g]? = w.heap[g]?):∀ {n:Nat} {v:Value} {l:List (Tm n)},ItemsAt w B n v l→ItemsAt w' B n v l:=by
 intro n
 induction n with
 | zero=>intro v l h;exact h
 | succ n ih =>
  intro v l h;obtain ⟨p,c,e,h1,h2,h3⟩:=h;refine ⟨p,c,e,h1,h2,fun hn=>?_⟩;obtain ⟨g,o,e,hg,hc⟩:=h3 hn;refine ⟨g,o,e,hg,fun j hj=>?_⟩;obtain ⟨u,hc1,hc2⟩:=hc j hj;exact ⟨u,hc1.same (hs g hg),ih hc2⟩
theorem ItemsAt.below {w w':World} {B B':Nat} {n:Nat} {v:Value} {l:List (Tm n)} (h:ItemsAt w B n v l) (hb:Below B' w w') (hB:B ≤ B'):ItemsAt w' B n v l :=
 h.same fun g hg=>hb.block g (by omega)
theorem ItemsAt.drewN {w:World} {B:Nat} {n:Nat} {v:Value} {l:List (Tm n)} (h:ItemsAt w B n v l) (m:Nat):ItemsAt (w.drewN m) B n v l:=ItemsAt.same (w:=w) (w':=w.drewN m) (B:=B) (fun _ _=>rfl) h
theorem ItemsAt.more {w:World} {B B':Nat} (hB:B ≤ B'):∀ {n:Nat} {v:Value} {l:List (Tm n)},ItemsAt w B n v l→ItemsAt w B' n v l:=by
 intro n
 induction n with
 | zero=>intro v l h;exact h
 | succ n ih =>
  intro v l h;obtain ⟨p,c,e,h1,h2,h3⟩:=h;refine ⟨p,c,e,h1,h2,fun hn=>?_⟩;obtain ⟨g,o,e,hg,hc⟩:=h3 hn;refine ⟨g,o,e,by omega,fun j hj=>?_⟩;obtain ⟨u,hc1,hc2⟩:=hc j hj;exact ⟨u,hc1,ih hc2⟩
theorem ItemsAt.at_ {w:World} {B n:Nat} {v:Value} {l:List (Tm (n + 1))} (h:ItemsAt w B (n + 1) v l) (hne:l ≠ []):∃ g o c,v = .slice (some ⟨g,o,none⟩) l.length c∧l.length ≤ c∧c ≤ maxLen∧g < B ∧
 ∀ j,(h:j < l.length)→∃ u,Cells w g (o + j * 9) (l[j]).f u∧ItemsAt w B n u (l[j]).items:=by
 obtain ⟨p,c,e,h1,h2,h3⟩:=h;obtain ⟨g,o,rfl,hg,hc⟩:=h3 hne;exact ⟨g,o,c,e,h1,h2,hg,hc⟩
theorem ItemsAt.nil_any {w:World} {B n c:Nat} {p:Option Addr} (hc:c ≤ maxLen):ItemsAt w B n (.slice p 0 c) ([]:List (Tm n)):=by
 cases n with
 | zero=>exact ⟨p,c,rfl,hc⟩
 | succ n=>exact ⟨p,c,rfl,Nat.zero_le _,hc,fun h=>absurd rfl h⟩
def liftT:(n:Nat)→Tm n→Tm (n + 1)
 | 0,t=>(nomatch (show Empty from t))
 | n + 1,t=>Tm.mk t.f (t.items.map (liftT n))
def liftL (n:Nat) (l:List (Tm n)):List (Tm (n + 1)):=l.map (liftT n)
theorem ItemsAt.lift {w:World} {B:Nat}:∀ {n:Nat} {v:Value} {l:List (Tm n)},ItemsAt w B n v l→ItemsAt w B (n + 1) v (liftL n l):=by
 intro n
 induction n with
 | zero =>
  intro v l h;obtain ⟨p,c,rfl,hc⟩:=h;have:=Tm.nil0 l;subst this;exact ⟨p,c,rfl,Nat.zero_le _,hc,fun h=>absurd rfl h⟩
 | succ n ih =>
  intro v l h;obtain ⟨p,c,e,h1,h2,h3⟩:=h;have hl:(liftL (n + 1) l).length = l.length:=by simp [liftL]
  refine ⟨p,c,by rw [hl];exact e,by rw [hl];exact h1,h2,fun hn=>?_⟩;obtain ⟨g,o,e,hg,hc⟩:=h3 (fun e=>hn (by rw [e];rfl));refine ⟨g,o,e,hg,fun j hj=>?_⟩;rw [hl] at hj;obtain ⟨u,hc1,hc2⟩:=hc j hj;have he:(liftL (n + 1) l)[j]'(by rw [hl];exact hj) = liftT (n + 1) l[j]:=by simp [liftL]
  rw [he];exact ⟨u,hc1,ih hc2⟩
theorem ItemsAt.to {w:World} {B n m:Nat} {v:Value} {l:List (Tm n)} (h:ItemsAt w B n v l) (hm:n ≤ m):∃ l':List (Tm m),ItemsAt w B m v l':=by
 induction m with
 | zero =>
  obtain rfl:n = 0:=by omega
  exact ⟨l,h⟩
 | succ m ih =>
  by_cases e:n = m + 1
  ·subst e;exact ⟨l,h⟩
  ·obtain ⟨l',h'⟩:=ih (by omega);exact ⟨_,h'.lift⟩
end tm
namespace rec
open Go.RowKit mem
structure ElTy (sl e:TypeId) (s:Nat):Prop where
 und:Tryz.prog.underlying sl = some (.slice e)
 info:∃ i z,Tryz.prog.info? e = some i∧i.zero = some z∧i.size = s∧z.cells.size = s∧i.bytes ≤ 10000
 pos:0 < s
section
variable {α:Type} {enc:α→List Value} {s:Nat}
def EncOK (enc:α→List Value) (s:Nat) (l:List α):Prop:=∀ a ∈ l,(enc a).length = s∧∀ u ∈ enc a,u.oneCell' = true
theorem EncOK.nil:EncOK enc s []:=fun a h=>by simp at h
theorem EncOK.append {l m:List α} (h:EncOK enc s l) (k:EncOK enc s m):EncOK enc s (l ++ m):=fun a ha=>by
 rcases List.mem_append.1 ha with ha | ha
 ·exact h a ha
 ·exact k a ha
theorem EncOK.sub {l m:List α} (h:EncOK enc s l) (hm:∀ a ∈ m,a ∈ l):EncOK enc s m:=fun a ha=>h a (hm a ha)
theorem flat_len:∀ {l:List α},EncOK enc s l→(l.flatMap enc).length = l.length * s:=by
 intro l
 induction l with
 | nil=>intro _;simp
 | cons a l ih =>
  intro h;rw [List.flatMap_cons,List.length_append,(h a List.mem_cons_self).1,ih (fun b hb=>h b (List.mem_cons_of_mem _ hb)),List.length_cons,Nat.succ_mul,Nat.add_comm]
theorem flat_get:∀ {l:List α},EncOK enc s l→∀ {j:Nat} {a:α},l[j]? = some a→∀ {k:Nat},k < s→(l.flatMap enc)[j * s + k]? = (enc a)[k]?:=by
 intro l
 induction l with
 | nil=>intro _ j a h;simp at h
 | cons b l ih =>
  intro h j a hj k hk;have hb:=(h b List.mem_cons_self).1;rw [List.flatMap_cons];cases j with
  | zero =>
   obtain rfl:b = a:=by simpa using hj
   rw [Nat.zero_mul,Nat.zero_add,List.getElem?_append_left (by omega)]
  | succ j =>
   rw [List.getElem?_cons_succ] at hj;rw [List.getElem?_append_right (by rw [Nat.succ_mul];omega),hb,← ih (fun c hc=>h c (List.mem_cons_of_mem _ hc)) hj hk];congr 1;rw [Nat.succ_mul];omega
theorem flat_inv {l:List α} (hs:0 < s) {i:Nat} (hi:i < l.length * s):∃ j k a,i = j * s + k∧k < s∧l[j]? = some a:=by
 have hj:i / s < l.length:=(Nat.div_lt_iff_lt_mul hs).2 hi;refine ⟨i / s,i % s,l[i / s],?_,Nat.mod_lt _ hs,List.getElem?_eq_getElem hj⟩;rw [Nat.mul_comm];exact (Nat.div_add_mod i s).symm
def RecAt (enc:α→List Value) (s:Nat) (w:World) (B:Nat) (v:Value) (l:List α):Prop :=
 ∃ p c,v = .slice p l.length c∧l.length ≤ c∧c ≤ maxLen∧(l ≠ []→∃ g o,p = some ⟨g,o,none⟩∧g < B∧∀ j a,l[j]? = some a→∀ k u,(enc a)[k]? = some u→w.cell? ⟨g,o + (j * s + k),none⟩ = some u)
def RecOwn (enc:α→List Value) (e:TypeId) (s:Nat) (w:World) (base:Nat) (v:Value) (l:List α):Prop:=w.ownsRow base e s v l.length (l.flatMap enc)
theorem RecAt.shape {w:World} {B:Nat} {v:Value} {l:List α} (h:RecAt enc s w B v l):∃ p c,v = .slice p l.length c∧l.length ≤ c∧c ≤ maxLen:=by
 obtain ⟨p,c,e,h1,h2,_⟩:=h;exact ⟨p,c,e,h1,h2⟩
theorem RecAt.same {w w':World} {B:Nat} {v:Value} {l:List α} (h:RecAt enc s w B v l) (hs:∀ g,g < B→w'.heap[g]? = w.heap[g]?):RecAt enc s w' B v l:=by
 obtain ⟨p,c,e,h1,h2,h3⟩:=h;refine ⟨p,c,e,h1,h2,fun hn=>?_⟩;obtain ⟨g,o,e,hg,hc⟩:=h3 hn;exact ⟨g,o,e,hg,fun j a hj k u hu=>(World.cell?_of_block (w:=w) (w':=w') (a:=⟨g,o + (j * s + k),none⟩) (hs g hg)).trans (hc j a hj k u hu)⟩
theorem RecAt.block {w w':World} {B:Nat} {v:Value} {l:List α} (h:RecAt enc s w B v l) (hs:∀ g,v.ownBlock = some g→w'.heap[g]? = w.heap[g]?):RecAt enc s w' B v l:=by
 obtain ⟨p,c,e,h1,h2,h3⟩:=h;refine ⟨p,c,e,h1,h2,fun hn=>?_⟩;obtain ⟨g,o,e',hg,hc⟩:=h3 hn;exact ⟨g,o,e',hg,fun j a hj k u hu=>(World.cell?_of_block (w:=w) (w':=w') (a:=⟨g,o + (j * s + k),none⟩) (hs g (by rw [e,e'];rfl))).trans (hc j a hj k u hu)⟩
theorem RecAt.below {w w':World} {B B':Nat} {v:Value} {l:List α} (h:RecAt enc s w B v l) (hb:Below B' w w') (hB:B ≤ B'):RecAt enc s w' B v l:=h.same fun g hg=>hb.block g (by omega)
theorem RecAt.more {w:World} {B B':Nat} {v:Value} {l:List α} (h:RecAt enc s w B v l) (hB:B ≤ B'):RecAt enc s w B' v l:=by
 obtain ⟨p,c,e,h1,h2,h3⟩:=h;refine ⟨p,c,e,h1,h2,fun hn=>?_⟩;obtain ⟨g,o,e,hg,hc⟩:=h3 hn;exact ⟨g,o,e,by omega,hc⟩
theorem RecAt.drewN {w:World} {B:Nat} {v:Value} {l:List α} (h:RecAt enc s w B v l) (m:Nat):RecAt enc s (w.drewN m) B v l:=h.same (fun _ _=>rfl)
theorem RecAt.nil (w:World) (B:Nat) (p:Option Addr) (c:Nat) (hc:c ≤ maxLen):RecAt enc s w B (.slice p 0 c) ([]:List α):=⟨p,c,rfl,Nat.zero_le _,hc,fun h=>absurd rfl h⟩
theorem RecAt.nth {w:World} {B:Nat} {p:Option Addr} {n c:Nat} {l:List α} (h:RecAt enc s w B (.slice p n c) l) (h0:0 < l.length):∃ g o,p = some ⟨g,o,none⟩∧n = l.length∧g < B∧∀ j a,l[j]? = some a→∀ k u,(enc a)[k]? = some u→w.cell? ⟨g,o + (j * s + k),none⟩ = some u:=by
 obtain ⟨p',c',e,h1,h2,h3⟩:=h;simp only [Value.slice.injEq] at e;obtain ⟨rfl,rfl,rfl⟩:=e;obtain ⟨g,o,e,hg,hc⟩:=h3 (List.length_pos_iff.1 h0);exact ⟨g,o,e,rfl,hg,hc⟩
theorem RecAt.take {w:World} {B:Nat} {p:Option Addr} {n c:Nat} {l:List α} (h:RecAt enc s w B (.slice p n c) l) {k:Nat} (hk:k ≤ l.length):RecAt enc s w B (.slice p k c) (l.take k):=by
 obtain ⟨p',c',e,h1,h2,h3⟩:=h;simp only [Value.slice.injEq] at e;obtain ⟨rfl,rfl,rfl⟩:=e;have hl:(l.take k).length = k:=by rw [List.length_take];omega
 refine ⟨p,c,by rw [hl],by rw [hl];omega,h2,fun hn=>?_⟩;have h0:0 < (l.take k).length:=List.length_pos_iff.2 hn;obtain ⟨g,o,e',hg,hc⟩:=h3 (by intro e;subst e;simp at h0);refine ⟨g,o,e',hg,fun j a hj=>hc j a ?_⟩;have hjk:=(List.getElem?_eq_some_iff.1 hj).1;rw [← hj,List.getElem?_take,if_pos (by omega)]
theorem RecAt.drop {w:World} {B g o n c:Nat} {l:List α} (h:RecAt enc s w B (.slice (some ⟨g,o,none⟩) n c) l) {k:Nat} (hk:k ≤ l.length):RecAt enc s w B (.slice (some ⟨g,o + k * s,none⟩) (n - k) (c - k)) (l.drop k):=by
 obtain ⟨p',c',e,h1,h2,h3⟩:=h;simp only [Value.slice.injEq] at e;obtain ⟨rfl,rfl,rfl⟩:=e;have hl:(l.drop k).length = l.length - k:=List.length_drop;refine ⟨_,c - k,by rw [hl],by rw [hl];omega,by omega,fun hn=>?_⟩;have h0:0 < (l.drop k).length:=List.length_pos_iff.2 hn;obtain ⟨g',o',e',hg,hc⟩:=h3 (by intro e;subst e;simp at h0);simp only [Option.some.injEq,Addr.mk.injEq,and_true] at e';obtain ⟨rfl,rfl⟩:=e';refine ⟨g,o + k * s,rfl,hg,fun j a hj q u hu=>?_⟩;rw [List.getElem?_drop] at hj;have:=hc (k + j) a hj q u hu;rw [Nat.add_mul] at this;rw [← this];congr 2;omega
theorem RecAt.fresh {w:World} {g:Nat} {e:TypeId} {l:List α} {fz:Nat × Nat} (hE:EncOK enc s l) (hs:0 < s) (h:w.heap[g]? = some (.cells (l.flatMap enc).toArray e fz)) {c:Nat} (hc:l.length ≤ c) (hm:c ≤ maxLen):RecAt enc s w (g + 1) (.slice (some ⟨g,0,none⟩) l.length c) l:=by
 refine ⟨_,c,rfl,hc,hm,fun _=>⟨g,0,rfl,by omega,fun j a hj k u hu=>?_⟩⟩;have hk:k < s:=by
  have:=(List.getElem?_eq_some_iff.1 hu).1;rwa [(hE a (List.mem_of_getElem? hj)).1] at this
 have hg:=flat_get hE hj hk;rw [hu] at hg;rw [Nat.zero_add];unfold World.cell?;simp [h,hg]
theorem RecOwn.shape {e:TypeId} {w:World} {base:Nat} {v:Value} {l:List α} (h:RecOwn enc e s w base v l):∃ p c,v = .slice p l.length c∧l.length ≤ c∧c ≤ maxLen:=by
 rcases h.2 with ⟨h1,h2⟩ | ⟨g,cap,cur,h1,_,_,h2,h3,_⟩
 ·exact ⟨none,0,by rw [h1,h2],by omega,Nat.zero_le _⟩
 ·exact ⟨_,cap,h1,h2,h3⟩
theorem RecOwn.lt {e:TypeId} {w:World} {base:Nat} {v:Value} {l:List α} (h:RecOwn enc e s w base v l) {k:Nat} (hk:v.ownBlock = some k):base ≤ k∧k < w.heap.size:=by
 rcases h.2 with ⟨h1,_⟩ | ⟨g,cap,cur,h1,hb,hh,_⟩
 ·subst h1;simp [Value.ownBlock] at hk
 ·subst h1;obtain rfl:g = k:=by simpa [Value.ownBlock] using hk
  exact ⟨hb,(Array.getElem?_eq_some_iff.1 hh).1⟩
theorem RecOwn.nil (e:TypeId) (w:World) (base:Nat):RecOwn enc e s w base (.slice none 0 0) ([]:List α):=⟨by simp,.inl ⟨rfl,rfl⟩⟩
theorem RecOwn.same {e:TypeId} {w w':World} {base:Nat} {v:Value} {l:List α} (h:RecOwn enc e s w base v l) (hk:∀ k,v.ownBlock = some k→w'.heap[k]? = w.heap[k]?):RecOwn enc e s w' base v l:=row_same h hk
theorem RecOwn.base {e:TypeId} {w:World} {base base':Nat} {v:Value} {l:List α} (h:RecOwn enc e s w base v l) (hb:∀ k,v.ownBlock = some k→base' ≤ k):RecOwn enc e s w base' v l:=row_base h hb
theorem RecOwn.below {e:TypeId} {w w':World} {base:Nat} {v:Value} {l:List α} (h:RecOwn enc e s w base v l) (hb:Below w.heap.size w w'):RecOwn enc e s w' base v l:=h.same fun k hk=>hb.block k (h.lt hk).2
theorem RecOwn.row {e:TypeId} {w:World} {base:Nat} {v:Value} {l:List α} (hE:EncOK enc s l) (h:RecOwn enc e s w base v l):RecAt enc s w w.heap.size v l:=by
 obtain ⟨h0,h1 | ⟨g,cap,cur,rfl,hb,hh,h2,h3,h4,h5⟩⟩:=id h
 ·obtain ⟨rfl,h2⟩:=h1;obtain rfl:=List.eq_nil_of_length_eq_zero h2;exact RecAt.nil _ _ _ _ (Nat.zero_le _)
 ·refine ⟨_,cap,rfl,h2,h3,fun hn=>⟨g,0,rfl,(Array.getElem?_eq_some_iff.1 hh).1,fun j a hj k u hu=>?_⟩⟩;have hk:k < s:=by
   have:=(List.getElem?_eq_some_iff.1 hu).1;rwa [(hE a (List.mem_of_getElem? hj)).1] at this
  have hg:=flat_get hE hj hk;rw [hu] at hg;have hlt:j * s + k < l.length * s:=by
   have:=(List.getElem?_eq_some_iff.1 hg).1;rw [flat_len hE] at this;exact this
  rw [Nat.zero_add,World.ownsRow.cellAt h _ hlt,hg]
structure AppR (enc:α→List Value) (e:TypeId) (s:Nat) (w:World) (base:Nat) (v:Value) (l xs:List α) (v':Value) (w':World):Prop where
 own:RecOwn enc e s w' base v' (l ++ xs)
 grown:w.grownBy w' v.ownBlock
 at_:v'.ownBlock = v.ownBlock∨v'.ownBlock = some w.heap.size
theorem AppR.other {e:TypeId} {w w':World} {base:Nat} {v v':Value} {l xs:List α} (h:AppR enc e s w base v l xs v' w') {k:Nat} (hk:k < w.heap.size) (hn:v.ownBlock ≠ some k):w'.heap[k]? = w.heap[k]?:=h.grown.block k hk (fun e=>hn e.symm)
theorem AppR.place {e:TypeId} {w w':World} {base:Nat} {v v':Value} {l xs:List α} (h:AppR enc e s w base v l xs v' w') {k:Nat} (hk:k < w.heap.size) (hn:v.ownBlock ≠ some k):v'.ownBlock ≠ some k:=by
 intro e
 rcases h.at_ with h1 | h1
 ·exact hn (h1 ▸ e)
 ·rw [h1] at e;have:=Option.some.inj e;omega
theorem AppR.touch {e:TypeId} {w0 w w':World} {base:Nat} {v v':Value} {l xs:List α} {S:Nat→Prop} (h:AppR enc e s w base v l xs v' w') (ht:TouchB S w0 w) (hs:∀ k,v.ownBlock = some k→k < w0.heap.size→S k):TouchB S w0 w':=ht.grown h.grown hs
theorem AppR.belowB {e:TypeId} {w0 w w':World} {base B:Nat} {v v':Value} {l xs:List α} (h:AppR enc e s w base v l xs v' w') (hb:Below B w0 w) (hB:B ≤ w.heap.size) (hs:∀ k,v.ownBlock = some k→B ≤ k):Below B w0 w':=hb.grown h.grown hB hs
theorem run_append_none_rec {sl e:TypeId} (T:ElTy sl e s) (w:World) (v:Value) (p:Option Addr) (n c c':Nat) (hv:v = .slice p n c) (hc:n ≤ c) (ty:TypeId) :
 (Builtin.append_ #[sl,sl] ty #[v,.slice none 0 c']).run Tryz.prog w = .ok v w:=by
 subst hv;obtain ⟨hund,⟨i,z,hi,hz,hs,hzs,hby⟩,hpos⟩:=T;unfold Builtin.append_;have hsz:(Go.sizeOf e).run Tryz.prog w = .ok s w:=by rw [← hs];simp [Go.sizeOf,typeInfo,Sem.run,hi,Result.andThen]
 simp [go_sem,run_underlying hund,hund,hi,hz,hs,hby,hc,hsz,Result.andThen];cases p <;> rfl
theorem run_append_rec {sl e:TypeId} (T:ElTy sl e s) {w:World} {base:Nat} {v:Value} {l:List α} (h:RecOwn enc e s w base v l) (hb:base ≤ w.heap.size) (ty:TypeId) {B:Nat} {vx:Value} {xs:List α} (hx:RecAt enc s w B vx xs) (hE:EncOK enc s xs) (hn:l.length + xs.length ≤ 1000000000) :
 ∃ v' w',(Builtin.append_ #[sl,sl] ty #[v,vx]).run Tryz.prog w = .ok v' w'∧AppR enc e s w base v l xs v' w':=by
 obtain ⟨p,c,rfl,h1,h2,h3⟩:=hx;cases hxs:xs with
 | nil =>
  subst hxs;cases p with
  | none =>
   obtain ⟨pv,cv,ev,hc,_⟩:=h.shape;exact ⟨v,w,run_append_none_rec T w v pv l.length cv _ ev hc ty,by rw [List.append_nil];exact h,⟨rfl,rfl,rfl,Nat.le_refl _,fun _ _ _=>rfl⟩,.inl rfl⟩
  | some ad =>
   obtain ⟨hund,⟨i,z,hi,hz,hs,hzs,hby⟩,hpos⟩:=T;obtain ⟨v',w',hr,hown,hg,_,hat⟩:=run_append_own_at (P:=Tryz.prog) w base sl ty e i z s i.bytes hund hi hz hs rfl hzs hpos v l.length (l.flatMap enc) h ad 0 c [] (by simp) (fun j u hu=>by simp at hu) (fun u hu=>by simp at hu) (by unfold maxLen;simp at hn;omega) (by
    simp at hn
    refine Nat.le_trans (Nat.mul_le_mul hn hby) (by decide)) hb
   refine ⟨v',w',hr,?_,hg,hat⟩;unfold RecOwn;rw [List.append_nil];simpa using hown
 | cons x0 xs0 =>
  subst hxs;obtain ⟨g,o,rfl,hg,hc⟩:=h3 (by simp);obtain ⟨hund,⟨i,z,hi,hz,hs,hzs,hby⟩,hpos⟩:=T;have hfl:=flat_len hE;obtain ⟨v',w',hr,hown,hg,_,hat⟩:=run_append_own_at (P:=Tryz.prog) w base sl ty e i z s i.bytes hund hi hz hs rfl hzs hpos v l.length (l.flatMap enc) h ⟨g,o,none⟩ (x0 :: xs0).length c ((x0 :: xs0).flatMap enc) hfl (fun j u hu=>by
   have hj:=(List.getElem?_eq_some_iff.1 hu).1
   rw [hfl] at hj
   obtain ⟨q,k,a,rfl,hk,hq⟩:=flat_inv hpos hj
   rw [flat_get hE hq hk] at hu
   have:=hc q a hq k u hu
   rw [Addr.add_lit]
   exact this) (fun u hu=>by
   obtain ⟨a,ha,hu⟩:=List.mem_flatMap.1 hu
   exact (hE a ha).2 u hu) (by unfold maxLen;omega) (by refine Nat.le_trans (Nat.mul_le_mul hn hby) (by decide)) hb
  refine ⟨v',w',hr,?_,hg,hat⟩;unfold RecOwn;rw [List.length_append,List.flatMap_append];exact hown
theorem wpList_append_rec {sl e:TypeId} (T:ElTy sl e s) {w:World} {ops:Array Oper} {rest:List Oper} {o:Oper} {a:Act} {Q:Exit→Act→World→Prop} (hgd:o.guard = none) (x y:Operand)
 (ho:o.op = .call { callee:=.builtin .append,args:=#[x,y],argTypes:=#[sl,sl] }) {base:Nat} {v:Value} {l:List α} (hs:a.eval x = v) (hown:RecOwn enc e s w base v l) (hb:base ≤ w.heap.size)
 {B:Nat} {vx:Value} {xs:List α} (hx:a.eval y = vx) (hrow:RecAt enc s w B vx xs) (hE:EncOK enc s xs) (hn:l.length + xs.length ≤ 1000000000)
 (h:∀ v' w',AppR enc e s w base v l xs v' w'→wpList Tryz.prog ops Q rest (a.put o.dst v') w'):wpList Tryz.prog ops Q (o :: rest) a w:=by
 refine wpList_plain hgd fun K hK=>?_;obtain ⟨v',w',hr,h2⟩:=run_append_rec T hown hb o.type hrow hE hn;unfold Oper.wp execOp;simp only [ho,resolve,invoke,builtin,Sem.run_bind,Sem.run_pure,Result.andThen_ok,List.map_toArray,List.map_cons,List.map_nil,hs,hx,hr];exact hK _ _ (h v' w' h2)
end
end rec
end Go.Proofs.YtpnlnbolhkcnjaaGreat
