/- Texts of this seat, one behind the other: TeE, TeF, TeG, TeH, TeI, TeM, TeN. No condition beyond theirs. -/
import Derived.Test.YtfbggmbmgohiiaaGreatK47
import Derived.Test.YtfbggmbmgohiiaaGreatK01
import Derived.Test.YtfbggmbmgohiiaaGreatK41
import Derived.Test.YtfbggmbmgohiiaaGreatK43
set_option linter.unusedSimpArgs false
set_option linter.unusedVariables false
set_option maxHeartbeats 4000000
set_option maxRecDepth 100000
namespace Go.Proofs.YtfbggmbmgohiiaaGreat.tb
open Go.RowKit mem rec tm names
section
variable {N:Nat} {w W:World} {B y:Nat} {lv:Value} {T:List (RTb N)} {t:RTb N}
theorem flat_setR:∀ (T:List (RTb N)) (i:Nat) (t:RTb N) (v':Value) (rows':List (RRw N)),T[i]? = some t→(T.flatMap rtL).set (i * 20 + 19) v' = (T.set i { t with vr:=v',rows:=rows' }).flatMap rtL
 | [],i,t,v',rows',h=>by simp at h
 | a :: T,0,t,v',rows',h=>by
  simp at h
  subst h
  rw [List.set_cons_zero,List.flatMap_cons,List.flatMap_cons,Nat.zero_mul,Nat.zero_add]
  have hl:(rtL a).length = 20:=rfl
  rw [List.set_append_left _ _ (by omega)]
  rfl
 | a :: T,i + 1,t,v',rows',h=>by
  rw [List.getElem?_cons_succ] at h
  rw [List.set_cons_succ,List.flatMap_cons,List.flatMap_cons]
  have hl:(rtL a).length = 20:=rfl
  rw [List.set_append_right _ _ (by omega),hl,show (i + 1) * 20 + 19 - 20 = i * 20 + 19 by omega,flat_setR T i t v' rows' h]
theorem RfAt.upd (h:RfAt w B y lv T) {g c:Nat} (hlv:lv = .slice (some ⟨g,0,none⟩) T.length c) {i:Nat} (hi:T[i]? = some t) (hb:Below w.heap.size w W) {v':Value} {rows':List (RRw N)} (hown:RecOwn rrL 55 18 W w.heap.size v' rows') (hr:∀ r ∈ rows',ItemsAt W B N r.uk r.k.items∧ItemsAt W B N r.uv r.v.items) :
 RfAt (W.setCell ⟨g,i * 20 + 19,none⟩ v') B y lv (T.set i { t with vr:=v',rows:=rows' })∧TT refT3 B w (W.setCell ⟨g,i * 20 + 19,none⟩ v'):=by
 have hW:=h.below hb
 have hBw:=h.blt
 obtain ⟨hlen,hz | ⟨g',cap,cur,hv,hbg,hg,hnc,hcm,hcs,htk⟩⟩:=hW.l
 ·rw [hlv] at hz;simp at hz
 rw [hlv] at hv
 simp only [Value.slice.injEq,Option.some.injEq,Addr.mk.injEq,and_true,true_and] at hv
 obtain ⟨rfl,rfl⟩:=hv
 have hil:i < T.length:=(List.getElem?_eq_some_iff.1 hi).1
 have hgw:g < w.heap.size:=(h.l.lt (k:=g) (by rw [hlv];rfl)).2
 have htyg:tyOf w g = some 53:=ownTy h.l (by rw [hlv];rfl)
 have hset:∀ q,q ≠ g→(W.setCell ⟨g,i * 20 + 19,none⟩ v').heap[q]? = W.heap[q]?:=fun q hq=>Below.heap_setCell _ _ _ _ hq
 have hyg:y ≠ g:=ty_ne (tyOf_of h.obj) htyg (by decide)
 have hlow:∀ q,q < B→(W.setCell ⟨g,i * 20 + 19,none⟩ v').heap[q]? = W.heap[q]?:=fun q hq=>hset q (by omega)
 have hT:TT refT3 B w (W.setCell ⟨g,i * 20 + 19,none⟩ v'):=TouchB.setCell ((TouchB.refl _ _).ofBelow hb (Nat.le_refl _)) _ _ (fun _=>⟨hbg,53,htyg,.inr (.inl rfl)⟩)
 have hflat:=flat_setR T i t v' rows' hi
 refine ⟨⟨(hset y hyg).trans hW.obj,?_,fun u hu=>?_,h.low⟩,hT⟩
 ·have hls:(T.set i { t with vr:=v',rows:=rows' }).length = T.length:=List.length_set
  unfold RecOwn
  refine ⟨?_,.inr ⟨g,c,cur.setIfInBounds (i * 20 + 19) v',?_,hbg,set_block hg v',by rw [hls];exact hnc,hcm,by rw [Array.size_setIfInBounds];exact hcs,?_⟩⟩
  ·rw [← hflat,List.length_set,hls];exact hlen
  ·rw [hls];exact hlv
  ·rw [hls,Array.toList_setIfInBounds,List.take_set,htk,hflat]
 ·rcases List.mem_or_eq_of_mem_set hu with hu | rfl
  ·exact (hW.tabs u hu).keep hlow (fun q hq=>hset q (ty_ne (ownTy (h.tabs u hu).rows hq) htyg (by decide)))
  ·have ht:=hW.tabs t (List.mem_of_getElem? hi)
   exact ⟨(hown.base (base':=B) (fun k hk=>Nat.le_trans hBw (hown.lt hk).1)).same (fun q hq=>hset q (by have:=(hown.lt hq).1;omega)),ht.iref.same hlow,ht.iown.same hlow,fun r hr'=>⟨(hr r hr').1.same hlow,(hr r hr').2.same hlow⟩⟩
end
def PutV {N:Nat} (B y:Nat) (lv:Value) (T:List (RTb N)) (i:Nat) (t:RTb N) (R:List (Tm (N + 1) × Tm (N + 1))) (w:World) (w':World):Prop:=∃ v' rows',absRR rows' = R∧RfAt w' B y lv (T.set i { t with vr:=v',rows:=rows' })∧TT refT3 B w w'
section
variable {N:Nat} {w w':World} {B y:Nat} {lv:Value} {T:List (RTb N)} {t:RTb N} {r k v:Tm (N + 1)} {ur0 uk uv:Value}
structure PArg (w:World) (B:Nat) (r k v:Tm (N + 1)) (ur0 uk uv:Value):Prop where
 ir:ItemsAt w B N ur0 r.items
 ik:ItemsAt w B N uk k.items
 iv:ItemsAt w B N uv v.items
 nk:nodesT k ≤ 100000000
 nv:nodesT v ≤ 100000000
end
section
variable {N:Nat} {w w':World} {B y:Nat} {lv:Value} {T:List (RTb N)} {t:RTb N} {r k:Tm (N + 1)} {ur0 uk:Value}
structure GArg (w:World) (B:Nat) (r k:Tm (N + 1)) (ur0 uk:Value):Prop where
 ir:ItemsAt w B N ur0 r.items
 ik:ItemsAt w B N uk k.items
 nk:nodesT k ≤ 100000000
end
section
variable {N:Nat} {w w':World} {B y:Nat} {lv:Value} {T:List (RTb N)} {t:RTb N} {r k:Tm (N + 1)} {ur0 uk:Value}
end
section
variable {N:Nat} {w w' W:World} {B y:Nat} {lv:Value} {T:List (RTb N)} {r o:Tm (N + 1)} {ur0 uo0:Value}
structure MArg (w:World) (B:Nat) (r o:Tm (N + 1)) (ur0 uo0:Value):Prop where
 ir:ItemsAt w B N ur0 r.items
 io:ItemsAt w B N uo0 o.items
 nr:nodesT r ≤ 100000000
 no:nodesT o ≤ 100000000
end
def RfG {N:Nat} (B y:Nat) (A:List (TabA N)) (W:World):Prop:=∃ lv T,RfAt W B y lv T∧T.map absRT = A
structure BdA {N:Nat} (A:List (TabA N)):Prop where
 sm:SmA A
 nd:∀ a ∈ A,nodesT a.ref ≤ 100000000∧nodesT a.own ≤ 100000000∧∀ x ∈ a.rows,nodesT x.1 ≤ 100000000∧nodesT x.2 ≤ 100000000
section
variable {N:Nat} {B y:Nat} {A:List (TabA N)} {W W':World} {r k v o:Tm (N + 1)} {ur uk uv uo:Value}
theorem RfG.below (h:RfG B y A W) (hb:Below W.heap.size W W'):RfG B y A W':=by
 obtain ⟨lv,T,h1,h2⟩:=h
 exact ⟨lv,T,h1.below hb,h2⟩
theorem RfG.prog (h:RfG B y A W) (ht:TT progT B W W'):RfG B y A W':=by
 obtain ⟨lv,T,h1,h2⟩:=h
 exact ⟨lv,T,h1.prog ht,h2⟩
theorem RfG.blt (h:RfG B y A W):B ≤ W.heap.size:=by
 obtain ⟨lv,T,h1,h2⟩:=h
 exact h1.blt
theorem absRR_abs (t:RTb N):(absRT t).rows = absRR t.rows:=rfl
theorem RfG.open (h:RfG B y A W) (hs:BdA A) (r:Tm (N + 1)):∃ lv T,RfAt W B y lv T∧T.map absRT = A∧T.length ≤ 1000∧(∀ t ∈ T,nodesT t.ref ≤ 100000000) ∧
 ((refA A r = none∧refR T r = none∧tabA A r = none)∨∃ i t,refA A r = some i∧refR T r = some i∧T[i]? = some t∧A[i]? = some (absRT t)∧tabA A r = some (absRT t)∧t.rows.length ≤ 1000000∧∀ r ∈ t.rows,nodesT r.k ≤ 100000000):=by
 obtain ⟨lv,T,h1,rfl⟩:=h
 refine ⟨lv,T,h1,rfl,by have:=hs.sm.len;rwa [List.length_map] at this,fun t ht=>(hs.nd _ (List.mem_map.2 ⟨t,ht,rfl⟩)).1,?_⟩
 cases hr:refR T r with
 | none =>
  have e:refA (T.map absRT) r = none:=by rw [refR_abs,hr]
  exact .inl ⟨e,rfl,by unfold tabA;rw [e];rfl⟩
 | some i =>
  have e:refA (T.map absRT) r = some i:=by rw [refR_abs,hr]
  obtain ⟨a,ha,_⟩:=refA_lt e
  rw [List.getElem?_map] at ha
  cases ht:T[i]? with
  | none=>rw [ht] at ha;cases ha
  | some t =>
   have ea:(T.map absRT)[i]? = some (absRT t):=by rw [List.getElem?_map,ht];rfl
   have hm:absRT t ∈ T.map absRT:=List.mem_of_getElem? ea
   refine .inr ⟨i,t,e,rfl,ht,ea,by unfold tabA;rw [e];exact ea,?_,fun r hr=>((hs.nd _ hm).2.2 (r.k,r.v) (List.mem_map.2 ⟨r,hr,rfl⟩)).1⟩
   have:=hs.sm.rows _ hm
   rw [absRR_abs] at this
   unfold absRR at this
   rwa [List.length_map] at this
theorem PutV.out {lv:Value} {T:List (RTb N)} {i:Nat} {t:RTb N} {R:List (Tm (N + 1) × Tm (N + 1))} (h:PutV B y lv T i t R W W'):RfG B y ((T.map absRT).set i { absRT t with rows:=R }) W'∧TT refT3 B W W':=by
 obtain ⟨v',rows',e,h1,h2⟩:=h
 refine ⟨⟨lv,_,h1,?_⟩,h2⟩
 refine List.ext_getElem? fun j=>?_
 rw [List.getElem?_map,List.getElem?_set,List.getElem?_set,List.length_map,List.getElem?_map]
 split
 ·split
  ·rw [← e];rfl
  ·rfl
 ·rfl
end
section
variable {N:Nat}
noncomputable def firstX (A:List (TabA N)) (r:Tm (N + 1)):Option (Tm (N + 1) × Tm (N + 1)) × Int:=match tabA A r with
 | none=>(none,4)
 | some a=>(a.rows[0]?,0)
def rowK (x:Option (Tm (N + 1) × Tm (N + 1))):Tm (N + 1):=x.elim zT (·.1)
def rowV (x:Option (Tm (N + 1) × Tm (N + 1))):Tm (N + 1):=x.elim zT (·.2)
def RowX (x:Option (Tm (N + 1) × Tm (N + 1)) × Int) (W:World) (e:Ending) (w':World):Prop:=∃ F1 F2 u1 u2,e = .returned (.tuple #[aggV (rowK x.1).f u1,aggV (rowV x.1).f u2,.bool x.1.isSome,.int .i64 x.2])∧Below W.heap.size W w'∧NewI W w' F1 N u1 (rowK x.1).items∧NewI W w' F2 N u2 (rowV x.1).items
variable {B z:Nat} {A:List (TabA N)} {W W':World} {r k v:Tm (N + 1)} {ur uk:Value} {B2:Nat}
theorem rowX_none {n:Int} {e:Ending} {w':World} (h:e = .returned (.tuple #[.agg #[.int .i64 0,.int .i64 0,.int .i64 0,.string ⟨#[]⟩,.string ⟨#[]⟩,.int .i64 0,.slice none 0 0,.string ⟨#[]⟩,.int .i64 0],.agg #[.int .i64 0,.int .i64 0,.int .i64 0,.string ⟨#[]⟩,.string ⟨#[]⟩,.int .i64 0,.slice none 0 0,.string ⟨#[]⟩,.int .i64 0],.bool false,.int .i64 n])∧Below W.heap.size W w'):RowX (N:=N) (none,n) W e w':=by
 obtain ⟨rfl,hb⟩:=h
 exact ⟨_,_,nilV,nilV,rfl,hb,NewI.nil W w',NewI.nil W w'⟩
theorem rowX_some {k v:Tm (N + 1)} {e:Ending} {w':World} (h:RowP k v W e w'):RowX (some (k,v),0) W e w':=h
theorem g_first (h:StG B z A W) (hs:SmA A) (hB2:B2 ≤ W.heap.size) (hI:ItemsAt W B2 N ur r.items) :
 Calls Tryz.prog 39 #[.pointer (some ⟨z,0,none⟩),aggV r.f ur] W (RowX (firstX A r) W):=by
 obtain ⟨F,vl,tabs,h1,h2,h3,hl,hc⟩:=h.open hs r
 rcases hc with ⟨c1,c2,c3⟩ | ⟨i,hi,c1,c2,c3,c4,c5,c6⟩
 ·have e1:firstX A r = (none,4):=by unfold firstX;rw [c3]
  rw [e1]
  exact (first39e h1 hl hB2 hI (er:=4) (by decide) (.inl ⟨c2,rfl,rfl⟩)).mono (fun e w' q=>rowX_none q)
 ·have e1:firstX A r = (((tabs[i]).rows[0]?).map (fun r=>(r.k,r.v)),0):=by
   unfold firstX
   rw [c4]
   show ((absR tabs[i])[0]?,(0:Int)) = _
   unfold absR
   rw [List.getElem?_map]
  rw [e1]
  by_cases h0:0 < (tabs[i]).rows.length
  ·rw [List.getElem?_eq_getElem h0]
   exact (first39y h1 hl hB2 hI hi c2 h0 (c5.nd _ (List.getElem_mem h0)).1 (c5.nd _ (List.getElem_mem h0)).2).mono (fun e w' q=>rowX_some q)
  ·rw [List.getElem?_eq_none (by omega)]
   exact (first39n h1 hl hB2 hI hi c2 (List.eq_nil_of_length_eq_zero (by show (tabs[i]).rows.length = 0;omega))).mono (fun e w' q=>rowX_none q)
theorem StG.good (h:StG B z A W):∀ a ∈ A,SortR (cmpH a.hs) a.rows∧∀ x ∈ a.rows,validT x.1 = true∧nodesT x.1 ≤ 100000000∧nodesT x.2 ≤ 100000000:=fun a ha=>by
 obtain ⟨F,vl,tabs,h1,rfl,h3⟩:=h
 obtain ⟨t,ht,rfl⟩:=List.mem_map.1 ha
 refine ⟨(h3 t ht).sd,fun x hx=>?_⟩
 obtain ⟨r,hr,rfl⟩:=List.mem_map.1 hx
 exact ⟨(h3 t ht).vd r hr,((h3 t ht).nd r hr).1,((h3 t ht).nd r hr).2⟩
def oneA (hs:Bool) (R:List (Tm (N + 1) × Tm (N + 1))):List (TabA N):=[⟨refT 1,pidT 1,hs,R⟩]
variable {hs:Bool} {R:List (Tm (N + 1) × Tm (N + 1))}
theorem one_ref:refA (oneA hs R) (refT 1) = some 0:=by
 unfold refA oneA
 rw [List.findIdx?_cons]
 rw [if_pos (eqB_t rfl)]
theorem one_tab:tabA (oneA hs R) (refT 1) = some ⟨refT 1,pidT 1,hs,R⟩:=by
 unfold tabA
 rw [one_ref]
 rfl
theorem one_sm (h:R.length ≤ 1000000):SmA (oneA hs R):=⟨by simp [oneA],fun a ha=>by
 obtain rfl:=List.mem_singleton.1 ha
 exact h⟩
theorem one_first:firstX (oneA hs R) (refT 1) = (R[0]?,0):=by
 unfold firstX
 rw [one_tab]
def ItQ (w0 W:World) (q:Nat) (u:Value) (l:List (Tm N)):Prop:=∃ F,NewI w0 W F N u l∧¬ F q∧¬ F (q + 1)
theorem ItQ.keep {w0:World} {q:Nat} {u:Value} {l:List (Tm N)} (h:ItQ w0 W q u l) (hs:∀ g,g < W.heap.size→g ≠ q→g ≠ q + 1→tyOf W g = some 24→W'.heap[g]? = W.heap[g]?) (hz:W.heap.size ≤ W'.heap.size):ItQ w0 W' q u l:=by
 obtain ⟨F,h1,h2,h3⟩:=h
 have hF:∀ g,F g→W'.heap[g]? = W.heap[g]?:=fun g hg=>by
  refine hs g (h1.inr g hg).2 (fun e=>h2 (e ▸ hg)) (fun e=>h3 (e ▸ hg)) ?_
  obtain ⟨cur,n,e,_⟩:=h1.typed g hg
  exact tyOf_of e
 exact ⟨F,⟨h1.items.mono hF (fun _ hg=>hg),h1.typed.same hF,fun g hg=>⟨(h1.inr g hg).1,Nat.lt_of_lt_of_le (h1.inr g hg).2 hz⟩⟩,h2,h3⟩
theorem ItQ.below {w0:World} {q:Nat} {u:Value} {l:List (Tm N)} (h:ItQ w0 W q u l) (hb:Below W.heap.size W W'):ItQ w0 W' q u l:=h.keep (fun g hg _ _ _=>hb.block g hg) hb.size
theorem ItQ.at_ {w0:World} {q:Nat} {u:Value} {l:List (Tm N)} (h:ItQ w0 W q u l):ItemsAt W W.heap.size N u l:=by
 obtain ⟨F,h1,_⟩:=h
 exact ItemsIn.toAt (fun g hg=>(h1.inr g hg).2) h1.items
theorem ItQ.new {w0 w1:World} {q:Nat} {F:Nat→Prop} {u:Value} {l:List (Tm N)} (h:NewI w1 W F N u l) (h0:w0.heap.size ≤ w1.heap.size) (hq:q + 1 < w1.heap.size∨W.heap.size ≤ q):ItQ w0 W q u l :=
 ⟨F,⟨h.items,h.typed,fun g hg=>⟨Nat.le_trans h0 (h.inr g hg).1,(h.inr g hg).2⟩⟩,fun hg=>by have:=h.inr q hg;omega,fun hg=>by have:=h.inr (q + 1) hg;omega⟩
def boxes (W:World) (q:Nat) (k v:Tm (N + 1)) (u1 u2:Value):World:=(W.setRow q (nineL k.f u1).toArray).setRow (q + 1) (nineL v.f u2).toArray
structure WkS (w0 W:World) (q:Nat) (R:List (Tm (N + 1) × Tm (N + 1))) (j:Nat) (vo:Value) (rows:List (RRw N)) (u1 u2:Value):Prop where
 hb:Below w0.heap.size w0 W
 hq:w0.heap.size ≤ q
 own:RecOwn rrL 55 18 W (q + 2) vo rows
 abs:absRR rows = R.take j
 it:∀ r ∈ rows,ItQ w0 W q r.uk r.k.items∧ItQ w0 W q r.uv r.v.items
 b1:W.heap[q]? = some (.cells (nineL (rowK R[j]?).f u1).toArray 24)
 b2:W.heap[q + 1]? = some (.cells (nineL (rowV R[j]?).f u2).toArray 24)
 i1:ItQ w0 W q u1 (rowK R[j]?).items
 i2:ItQ w0 W q u2 (rowV R[j]?).items
theorem WkS.below {w0:World} {q j:Nat} {vo u1 u2:Value} {rows:List (RRw N)} (h:WkS w0 W q R j vo rows u1 u2) (hb:Below W.heap.size W W'):WkS w0 W' q R j vo rows u1 u2 :=
 ⟨h.hb.trans (hb.mono h.hb.size),h.hq,h.own.below hb,h.abs,fun r hr=>⟨(h.it r hr).1.below hb,(h.it r hr).2.below hb⟩,(hb.block _ (Array.getElem?_eq_some_iff.1 h.b1).1).trans h.b1,(hb.block _ (Array.getElem?_eq_some_iff.1 h.b2).1).trans h.b2,h.i1.below hb,h.i2.below hb⟩
theorem boxes_touch (W:World) (q:Nat) (k v:Tm (N + 1)) (u1 u2:Value):(boxes W q k v u1 u2).heap.size = W.heap.size∧∀ g,g ≠ q→g ≠ q + 1→(boxes W q k v u1 u2).heap[g]? = W.heap[g]? :=
 ⟨by unfold boxes;simp,fun g h1 h2=>by
  unfold boxes
  rw [setRow_other _ _ _ _ h2,setRow_other _ _ _ _ h1]⟩
theorem boxes_at {W:World} {q:Nat} {k v:Tm (N + 1)} {u1 u2:Value} {c1 c2:Array Value} (h1:W.heap[q]? = some (.cells c1 24)) (h2:W.heap[q + 1]? = some (.cells c2 24)):(boxes W q k v u1 u2).heap[q]? = some (.cells (nineL k.f u1).toArray 24)∧(boxes W q k v u1 u2).heap[q + 1]? = some (.cells (nineL v.f u2).toArray 24):=by
 unfold boxes
 refine ⟨?_,setRow_heap _ _ _ _ _ _ ((setRow_other _ _ _ _ (by omega)).trans h2)⟩
 rw [setRow_other _ _ _ _ (by omega)]
 exact setRow_heap _ _ _ _ _ _ h1
theorem WkS.enc {w0:World} {q j:Nat} {vo u1 u2:Value} {rows:List (RRw N)} (h:WkS w0 W q R j vo rows u1 u2):EncOK rrL 18 rows:=fun r hr=>⟨rfl,fun u hu=>by
 obtain ⟨h1,h2⟩:=h.it r hr
 unfold rrL at hu
 rcases List.mem_append.1 hu with hu | hu
 ·exact nineL_one (it_one h1.at_) u hu
 ·exact nineL_one (it_one h2.at_) u hu⟩
theorem boxes_below {W:World} {q B:Nat} {k v:Tm (N + 1)} {u1 u2:Value} (hq:B ≤ q) (hB:B ≤ W.heap.size):Below B W (boxes W q k v u1 u2) :=
 ((touch_setRow W q (nineL k.f u1).toArray).below (fun g e=>by omega) hB).trans ((touch_setRow _ (q + 1) (nineL v.f u2).toArray).below (fun g e=>by omega) (by simp;exact hB))
theorem WkS.start {w1 w2:World} {F1 F2:Nat→Prop} {u1 u2:Value} (hb:Below w1.heap.size w1 w2) (h1:NewI w1 w2 F1 N u1 (rowK R[0]?).items) (h2:NewI w1 w2 F2 N u2 (rowV R[0]?).items) {c1 c2:Array Value} :
 WkS w1 (boxes ((w2.alloc (.cells c1 24)).alloc (.cells c2 24)) w2.heap.size (rowK R[0]?) (rowV R[0]?) u1 u2) w2.heap.size R 0 (.slice none 0 0) [] u1 u2:=by
 obtain ⟨hw,z1,z2⟩:=two_boxes w2 (.cells c1 24) (.cells c2 24)
 have hsz:((w2.alloc (.cells c1 24)).alloc (.cells c2 24)).heap.size = w2.heap.size + 2:=by rw [World.size_alloc,World.size_alloc]
 generalize (w2.alloc (.cells c1 24)).alloc (.cells c2 24) = w3 at *
 obtain ⟨t1,t2⟩:=boxes_touch w3 w2.heap.size (rowK R[0]?) (rowV R[0]?) u1 u2
 obtain ⟨t3,t4⟩:=boxes_at (k:=rowK R[0]?) (v:=rowV R[0]?) (u1:=u1) (u2:=u2) z1 z2
 have hs12:=hb.size
 have k2:∀ {u:Value} {l:List (Tm N)} {F:Nat→Prop},NewI w1 w2 F N u l→ItQ w1 (boxes w3 w2.heap.size (rowK R[0]?) (rowV R[0]?) u1 u2) w2.heap.size u l:=fun hn=>by
  have h3:ItQ w1 w3 w2.heap.size _ _:=(ItQ.new (w0:=w1) hn (Nat.le_refl _) (.inr (Nat.le_refl _))).below hw
  exact h3.keep (fun g hg a b _=>t2 g a b) (by omega)
 exact ⟨(hb.trans (hw.mono hb.size)).trans (boxes_below hs12 (by omega)),hs12,RecOwn.nil _ _ _,rfl,fun r hr=>(nomatch hr),t3,t4,k2 h1,k2 h2⟩
structure WkM (w0 W:World) (q:Nat) (R:List (Tm (N + 1) × Tm (N + 1))) (j:Nat) (vo:Value) (rows:List (RRw N)) (u1 u2:Value):Prop where
 hb:Below w0.heap.size w0 W
 hq:w0.heap.size ≤ q
 own:RecOwn rrL 55 18 W (q + 2) vo rows
 abs:absRR rows = R.take (j + 1)
 it:∀ r ∈ rows,ItQ w0 W q r.uk r.k.items∧ItQ w0 W q r.uv r.v.items
 b1:W.heap[q]? = some (.cells (nineL (rowK R[j]?).f u1).toArray 24)
 b2:W.heap[q + 1]? = some (.cells (nineL (rowV R[j]?).f u2).toArray 24)
 i1:ItQ w0 W q u1 (rowK R[j]?).items
theorem WkM.step {w0 W2 W3:World} {F1 F2:Nat→Prop} {q j:Nat} {vo u1 u2 x1 x2:Value} {rows:List (RRw N)} (h:WkM w0 W2 q R j vo rows u1 u2) (hb:Below W2.heap.size W2 W3) (h1:NewI W2 W3 F1 N x1 (rowK R[j + 1]?).items) (h2:NewI W2 W3 F2 N x2 (rowV R[j + 1]?).items) :
 WkS w0 (boxes W3 q (rowK R[j + 1]?) (rowV R[j + 1]?) x1 x2) q R (j + 1) vo rows x1 x2:=by
 have hq1:=(Array.getElem?_eq_some_iff.1 h.b1).1
 have hq2:=(Array.getElem?_eq_some_iff.1 h.b2).1
 obtain ⟨t1,t2⟩:=boxes_touch W3 q (rowK R[j + 1]?) (rowV R[j + 1]?) x1 x2
 obtain ⟨t3,t4⟩:=boxes_at (k:=rowK R[j + 1]?) (v:=rowV R[j + 1]?) (u1:=x1) (u2:=x2) ((hb.block _ hq1).trans h.b1) ((hb.block _ hq2).trans h.b2)
 have hs:=hb.size
 have ki:∀ {u:Value} {l:List (Tm N)},ItQ w0 W2 q u l→ItQ w0 (boxes W3 q (rowK R[j + 1]?) (rowV R[j + 1]?) x1 x2) q u l:=fun hi=>(hi.below hb).keep (fun g _ a b _=>t2 g a b) (by omega)
 have kn:∀ {u:Value} {l:List (Tm N)} {F:Nat→Prop},NewI W2 W3 F N u l→ItQ w0 (boxes W3 q (rowK R[j + 1]?) (rowV R[j + 1]?) x1 x2) q u l:=fun hn =>
  (ItQ.new (w0:=w0) hn h.hb.size (.inl hq2)).keep (fun g _ a b _=>t2 g a b) (by omega)
 exact ⟨(h.hb.trans (hb.mono h.hb.size)).trans (boxes_below h.hq (by have:=h.hb.size;omega)),h.hq,(h.own.below hb).same (fun g hg=>t2 g (by have:=(h.own.lt hg).1;omega) (by have:=(h.own.lt hg).1;omega)),h.abs,fun r hr=>⟨ki (h.it r hr).1,ki (h.it r hr).2⟩,t3,t4,kn h1,kn h2⟩
def WkP (R:List (Tm (N + 1) × Tm (N + 1))) (w:World) (e:Ending) (w':World):Prop:=∃ v rows,e = .returned (.tuple #[v,.bool true])∧Below w.heap.size w w'∧absRR rows = R∧RecAt rrL 18 w' w'.heap.size v rows∧∀ r ∈ rows,ItemsAt w' w'.heap.size N r.uk r.k.items∧ItemsAt w' w'.heap.size N r.uv r.v.items
theorem WkS.out {w0:World} {q:Nat} {vo u1 u2:Value} {rows:List (RRw N)} {j:Nat} (h:WkS w0 W q R j vo rows u1 u2) (hj:R.length ≤ j) {w:World} (hb:Below w.heap.size w w0):WkP R w (.returned (.tuple #[vo,.bool true])) W :=
 ⟨vo,rows,rfl,hb.trans (h.hb.mono hb.size),by rw [h.abs,List.take_of_length_le hj],h.own.row h.enc,fun r hr=>⟨(h.it r hr).1.at_,(h.it r hr).2.at_⟩⟩
end
end Go.Proofs.YtfbggmbmgohiiaaGreat.tb
