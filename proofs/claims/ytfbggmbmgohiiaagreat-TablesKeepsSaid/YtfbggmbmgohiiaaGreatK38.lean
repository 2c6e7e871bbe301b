/- Texts of this seat, one behind the other: TcC, TnR, TcU, TnS, ToF. No condition beyond theirs. -/
import Derived.Test.YtfbggmbmgohiiaaGreatK36
import Derived.Test.YtfbggmbmgohiiaaGreatK37
import Derived.Test.YtfbggmbmgohiiaaGreatK10
import Derived.Test.YtfbggmbmgohiiaaGreatK26
import Derived.Maps.AppendAt
set_option linter.unusedSimpArgs false
set_option linter.unusedVariables false
set_option maxHeartbeats 1000000
set_option maxRecDepth 100000
namespace Go.Proofs.YtfbggmbmgohiiaaGreat.tb
open Go.RowKit mem rec tm names
def insK {α:Type} (l:List α) (i:Nat) (a:α):List α:=l.take i ++ [a] ++ l.drop i
def setV {N:Nat} (l:List (RowE N)) (i:Nat) (v:Tm (N + 1)) (u:Value):List (RowE N):=match l[i]? with
 | none=>l
 | some r=>l.set i { r with v:=v,uv:=u }
theorem setV_of {N:Nat} {l:List (RowE N)} {i:Nat} (hi:i < l.length) (v:Tm (N + 1)) (u:Value):setV l i v u = l.set i { l[i] with v:=v,uv:=u }:=by
 unfold setV
 rw [List.getElem?_eq_getElem hi]
def zT {N:Nat}:Tm (N + 1):=Tm.mk zeroF []
noncomputable def newRow {N:Nat} (k:Tm (N + 1)) (u:Value):RowE N:=⟨k,zT,hashT k,u,nilV⟩
noncomputable def midRows {N:Nat} (t:TabE N) (k:Tm (N + 1)) (u:Value):List (RowE N):=if hasK t k then t.rows else insK t.rows (posK t k) (newRow k u)
def MoveS {N:Nat} (t:TabE N) (q:Nat):Prop:=q = t.b∨t.vr.ownBlock = some q
structure TabQ {N:Nat} (w:World) (B:Nat) (F:Nat→Prop) (t:TabE N) (W:World) (F1:Nat→Prop) (vr:Value) (l:List (RowE N)):Prop where
 at_:TabAt W B F1 { t with vr:=vr,rows:=l }
 touch:TouchB (MoveS t) w W
 more:∀ g,F g→F1 g
 ty:Typed W F1
 fl:∀ g,F1 g→g < W.heap.size
 own:∀ q,vr.ownBlock = some q→t.vr.ownBlock = some q∨w.heap.size ≤ q
 new:∀ g,F1 g→F g∨w.heap.size ≤ g
def MidQ {N:Nat} (w:World) (B:Nat) (F:Nat→Prop) (t:TabE N) (k:Tm (N + 1)) (W:World):Prop:=∃ F1 uk vr,TabQ w B F t W F1 vr (midRows t k uk)
def PutQ {N:Nat} (w:World) (B:Nat) (F:Nat→Prop) (t:TabE N) (k v:Tm (N + 1)) (W:World):Prop:=∃ F1 uk uv vr,TabQ w B F t W F1 vr (setV (midRows t k uk) (posK t k) v uv)
section
variable {N:Nat} {w:World} {B:Nat} {F:Nat→Prop} {t:TabE N} {k v:Tm (N + 1)}
theorem typed_ty {W:World} {G:Nat→Prop} (h:Typed W G) {g:Nat} (hg:G g):tyOf W g = some 24:=by
 obtain ⟨cur,M,h1,_⟩:=h g hg
 exact tyOf_of h1
theorem mid_has (h:TabAt w B F t) (hty:Typed w F) (hfl:∀ g,F g→g < w.heap.size) (hh:hasK t k = true) {W:World} (hb:Below w.heap.size w W):MidQ w B F t k W:=by
 refine ⟨F,nilV,t.vr,?_,(TouchB.refl _ _).ofBelow hb (Nat.le_refl _),fun _ hg=>hg,hty.same (fun g hg=>hb.block g (hfl g hg)),fun g hg=>Nat.lt_of_lt_of_le (hfl g hg) hb.size,fun q hq=>.inl hq,fun q hq=>.inl hq⟩
 unfold midRows
 rw [if_pos hh]
 exact h.below hb hfl
theorem tab_set (t:TabE N) (vr:Value) (l:List (RowE N)):(tabL t).toArray.setIfInBounds 19 vr = (tabL { t with vr:=vr,rows:=l }).toArray:=by
 unfold tabL nineL
 simp
theorem set_block {W:World} {b o:Nat} {c:Array Value} {ty:TypeId} (h:W.heap[b]? = some (.cells c ty)) (v:Value):(W.setCell ⟨b,o,none⟩ v).heap[b]? = some (.cells (c.setIfInBounds o v) ty):=heap_setCell_same W b o c ty v h
theorem ins_step (h:TabAt w B F t) (hty:Typed w F) (hfl:∀ g,F g→g < w.heap.size) (hB:B ≤ w.heap.size) (hlen:t.rows.length ≤ 1000000) (hh:hasK t k = false) {W:World} (hb:Below w.heap.size w W) {zv:Nat} {F1:Nat→Prop} {u:Value}
 (hN:NewI w W F1 N u k.items) (hz0:w.heap.size ≤ zv) (hz:W.heap[zv]? = some (.cells (rowL (newRow k u)).toArray 108)) :
 Calls Tryz.prog 60 #[t.vr,.int .i64 (posK t k),.slice (some ⟨zv,0,none⟩) 1 1] W fun e w'=>∃ v',e = .returned v'∧v'.oneCell' = true∧TouchB (fun q=>t.vr.ownBlock = some q) W w'∧w'.cell? ⟨t.b,19,none⟩ = some t.vr∧w'.frozen? ⟨t.b,19,none⟩ = false∧MidQ w B F t k (w'.setCell ⟨t.b,19,none⟩ v'):=by
 have hW:=h.below hb hfl
 have hE1:EncOK rowL 19 [newRow k u]:=fun r hr=>⟨rowL_len r,fun x hx=>by
  obtain rfl:r = newRow k u:=by simpa using hr
  unfold rowL at hx
  rcases List.mem_append.1 hx with hx | hx
  ·exact nineL_one (in_one hN.items) x hx
  rcases List.mem_append.1 hx with hx | hx
  ·exact nineL_one rfl x hx
  ·simp at hx;subst hx;rfl⟩
 have hvl:∀ q,t.vr.ownBlock = some q→q < w.heap.size:=fun q hq=>(h.rows.lt hq).2
 refine (insert60 hW.rows (Nat.le_trans hB hb.size) hlen hW.enc hE1 hz (fun e=>by have:=hvl _ e;omega) (posK_le t k)).mono ?_
 rintro e w' ⟨v',rfl,hown,hT,hv⟩
 have hone:v'.oneCell' = true:=by obtain ⟨p,c,rfl,_,_⟩:=hown.shape;rfl
 have hne:t.vr.ownBlock ≠ some t.b:=fun e=>ty_ne (tyOf_of h.blk) (ownTy h.rows e) (by decide) rfl
 have hblk:w'.heap[t.b]? = some (.cells (tabL t).toArray 98):=(hT.block _ hW.lt (fun e=>hne e)).trans hW.blk
 obtain ⟨_,_,_,hc19,hfz⟩:=tab_cells hblk
 refine ⟨v',rfl,hone,hT,hc19,hfz 19,?_⟩
 have hN':NewI w w' F1 N u k.items:=hN.touch hT (fun q hq=>hvl q hq)
 have hTw:TouchB (MoveS t) w (w'.setCell ⟨t.b,19,none⟩ v'):=TouchB.setCell (((TouchB.refl _ _).ofBelow hb (Nat.le_refl _)).trans hT (fun _ _ e=>.inr e)) _ _ (fun _=>.inl rfl)
 have hsz:(w'.setCell ⟨t.b,19,none⟩ v').heap.size = w'.heap.size:=by simp
 have hset:∀ g,g ≠ t.b→(w'.setCell ⟨t.b,19,none⟩ v').heap[g]? = w'.heap[g]?:=fun g hg=>Below.heap_setCell _ _ _ _ hg
 have hF1ne:∀ g,F1 g→g ≠ t.b:=fun g hg e=>by have:=(hN.inr g hg).1;have:=h.lt;omega
 have hFne:∀ g,F g→g ≠ t.b∧t.vr.ownBlock ≠ some g:=fun g hg=>⟨ty_ne (typed_ty hty hg) (tyOf_of h.blk) (by decide),fun e=>ty_ne (typed_ty hty hg) (ownTy h.rows e) (by decide) rfl⟩
 have hFs:∀ g,F g→(w'.setCell ⟨t.b,19,none⟩ v').heap[g]? = w.heap[g]?:=fun g hg=>(hset g (hFne g hg).1).trans ((hT.block g (Nat.lt_of_lt_of_le (hfl g hg) hb.size) (hFne g hg).2).trans (hb.block g (hfl g hg)))
 have hF1s:∀ g,F1 g→(w'.setCell ⟨t.b,19,none⟩ v').heap[g]? = w'.heap[g]?:=fun g hg=>hset g (hF1ne g hg)
 have hv'b:v'.ownBlock ≠ some t.b:=fun e=>by
  rcases hv _ e with e | e
  ·exact hne e
  ·have:=hW.lt;omega
 refine ⟨fun g=>F g∨F1 g,u,v',⟨⟨?_,?_,h.iref.mono hFs (fun _ q=>.inl q),h.iown.mono hFs (fun _ q=>.inl q),?_,h.low⟩,hTw,fun _ q=>.inl q,(hty.same hFs).union (hN'.typed.same hF1s),?_,fun q hq=>?_,fun g hg=>by rcases hg with e | e;exact .inl e;exact .inr (hN.inr g e).1⟩⟩
 ·exact (set_block hblk v').trans (by rw [tab_set t v' (midRows t k u)])
 ·show RecOwn rowL 108 19 _ B v' (midRows t k u)
  unfold midRows insK
  rw [hh,if_neg (by decide)]
  exact hown.same (fun q hq=>hset q (fun e=>hv'b (by rw [← e];exact hq)))
 ·intro r hr
  have hr':r ∈ insK t.rows (posK t k) (newRow k u):=by
   have hr:r ∈ midRows t k u:=hr
   unfold midRows at hr
   rwa [hh,if_neg (by decide)] at hr
  unfold insK at hr'
  simp only [List.mem_append,List.mem_singleton] at hr'
  rcases hr' with (hr' | rfl) | hr'
  ·have:=h.irow r (List.mem_of_mem_take hr')
   exact ⟨this.1.mono hFs (fun _ q=>.inl q),this.2.mono hFs (fun _ q=>.inl q)⟩
  ·exact ⟨hN'.items.mono hF1s (fun _ q=>.inr q),ItemsIn.nil_any (by decide)⟩
  ·have:=h.irow r (List.mem_of_mem_drop hr')
   exact ⟨this.1.mono hFs (fun _ q=>.inl q),this.2.mono hFs (fun _ q=>.inl q)⟩
 ·rintro g (hg | hg)
  ·rw [hsz];exact Nat.lt_of_lt_of_le (hfl g hg) (Nat.le_trans hb.size hT.size)
  ·rw [hsz];exact (hN'.inr g hg).2
 ·rcases hv q hq with e | e
  ·exact .inl e
  ·exact .inr (Nat.le_trans hb.size e)
theorem pos_mid (t:TabE N) (k:Tm (N + 1)) (u:Value):posK t k < (midRows t k u).length:=by
 unfold midRows
 split
 ·rename_i hh
  unfold hasK at hh
  by_cases hp:posK t k < t.rows.length
  ·exact hp
  ·rw [List.getElem?_eq_none (by omega)] at hh
   cases hh
 ·unfold insK
  have:=posK_le t k
  simp only [List.length_append,List.length_take,List.length_drop,List.length_singleton]
  omega
theorem val_step (hB:B ≤ w.heap.size) (hlowv:∀ q,t.vr.ownBlock = some q→B ≤ q) (hlow:B ≤ t.b) {Wm:World} (hm:MidQ w B F t k Wm) {uv0:Value} (hI:ItemsAt Wm Wm.heap.size N uv0 v.items) (hn:nodesT v ≤ 100000000) :
 ∃ g n c,Wm.cell? ⟨t.b,19,none⟩ = some (.slice (some ⟨g,0,none⟩) n c)∧posK t k < n∧n ≤ maxLen∧t.b < Wm.heap.size∧g ≠ t.b∧tyOf Wm g = some 108 ∧
  ∀ W,Below Wm.heap.size Wm W→Calls Tryz.prog 51 #[aggV v.f uv0] W (TPost v.f v.items W)∧∀ F2 u2,NewI Wm W F2 N u2 v.items→∃ w',(storeVar 24 ⟨g,posK t k * 19 + 9,none⟩ (aggV v.f u2)).run Tryz.prog W = .ok () w'∧PutQ w B F t k v w'∧TouchB (fun q=>q = g) W w':=by
 obtain ⟨F1,uk,vr,hq⟩:=hm
 have hpos:=pos_mid t k uk
 have hbB:Below B w Wm:=hq.touch.below (fun q hq=>by rcases hq with rfl | e;exact hlow;exact hlowv q e) hB
 have hown:=hq.at_.rows
 obtain ⟨g,cap,cur,hv,hbg,hg,hnc,hcm,hcs,htk⟩:=own_parts hown (by show 0 < (midRows t k uk).length;omega)
 have hv:vr = .slice (some ⟨g,0,none⟩) (midRows t k uk).length cap:=hv
 have hblk:Wm.heap[t.b]? = some (.cells (tabL { t with vr:=vr,rows:=midRows t k uk }).toArray 98):=hq.at_.blk
 obtain ⟨_,_,_,hc19,_⟩:=tab_cells hq.at_.blk
 have hgl:g < Wm.heap.size:=(Array.getElem?_eq_some_iff.1 hg).1
 have hgt:tyOf Wm g = some 108:=tyOf_of hg
 have hgb:g ≠ t.b:=ty_ne hgt (tyOf_of hblk) (by decide)
 refine ⟨g,(midRows t k uk).length,cap,hc19.trans (by rw [← hv]),hpos,Nat.le_trans hnc hcm,(Array.getElem?_eq_some_iff.1 hblk).1,hgb,hgt,fun W hb=>?_⟩
 refine ⟨copyAll N W Wm.heap.size uv0 v hb.size (hI.below hb (Nat.le_refl _)) hn,fun F2 u2 hN=>?_⟩
 have hW:=hq.at_.below hb hq.fl
 obtain ⟨w',hst,hown',hT⟩:=store_row (i:=posK t k) hW.rows hW.enc hpos hv v (in_one hN.items)
 have hvb:∀ q,vr.ownBlock = some q→q = g:=fun q e=>by rw [hv] at e;exact (Option.some.inj e).symm
 have hT2:TouchB (fun q=>q = g) W w':=hT.mono (fun q _ e=>hvb q e)
 refine ⟨w',hst,?_,hT2⟩
 have hs:∀ q,q < Wm.heap.size→q ≠ g→w'.heap[q]? = Wm.heap[q]?:=fun q hq1 hq2=>(hT2.block q (Nat.lt_of_lt_of_le hq1 hb.size) hq2).trans (hb.block q hq1)
 have hF1s:∀ q,F1 q→w'.heap[q]? = Wm.heap[q]?:=fun q hq1=>hs q (hq.fl q hq1) (ty_ne (typed_ty hq.ty hq1) hgt (by decide))
 have hN':=hN.touch hT2 (fun q e=>by subst e;exact hgl)
 have hF2s:∀ q,F2 q→w'.heap[q]? = w'.heap[q]?:=fun _ _=>rfl
 have hset:(midRows t k uk).set (posK t k) { (midRows t k uk)[posK t k] with v:=v,uv:=u2 } = setV (midRows t k uk) (posK t k) v u2:=(setV_of hpos v u2).symm
 refine ⟨fun q=>F1 q∨F2 q,uk,u2,vr,⟨⟨?_,?_,hq.at_.iref.mono hF1s (fun _ e=>.inl e),hq.at_.iown.mono hF1s (fun _ e=>.inl e),?_,hq.at_.low⟩,?_,fun q e=>.inl (hq.more q e),(hq.ty.same hF1s).union hN'.typed,?_,hq.own,fun q e=>by rcases e with e | e;exact hq.new q e;exact .inr (Nat.le_trans hq.touch.size (hN.inr q e).1)⟩⟩
 ·exact (hs t.b (Array.getElem?_eq_some_iff.1 hblk).1 (Ne.symm hgb)).trans hblk
 ·rw [← hset]
  exact hown'
 ·intro r hr
  have hr:r ∈ setV (midRows t k uk) (posK t k) v u2:=hr
  rw [← hset] at hr
  rcases List.mem_or_eq_of_mem_set hr with hr | rfl
  ·have:=hq.at_.irow r hr
   exact ⟨this.1.mono hF1s (fun _ e=>.inl e),this.2.mono hF1s (fun _ e=>.inl e)⟩
  ·have:=hq.at_.irow _ (List.getElem_mem hpos)
   exact ⟨this.1.mono hF1s (fun _ e=>.inl e),hN'.items.mono hF2s (fun _ e=>.inr e)⟩
 ·refine (hq.touch.ofBelow hb hq.touch.size).trans hT2 (fun q hql e=>?_)
  subst e
  rcases hq.own q (by rw [hv];rfl) with e | e
  ·exact .inr e
  ·omega
 ·rintro q (e | e)
  ·exact Nat.lt_of_lt_of_le (hq.fl q e) (Nat.le_trans hb.size hT2.size)
  ·exact (hN'.inr q e).2
end
section
variable {N:Nat} {w w':World} {B:Nat} {F:Nat→Prop} {s:TbSt N}
theorem TabQ.upd (h:TbAt w B F s) {i:Nat} (hi:i < s.tabs.length) {F1:Nat→Prop} {vr:Value} {l:List (RowE N)} (hq:TabQ w B F s.tabs[i] w' F1 vr l):TbAt w' B F1 { s with tabs:=s.tabs.set i { s.tabs[i] with vr:=vr,rows:=l } }∧TT progT B w w':=by
 have ht:=h.tabs _ (List.getElem_mem hi)
 refine ⟨h.upd (List.getElem?_eq_getElem hi) hq.touch rfl hq.at_ hq.own hq.more hq.ty hq.fl,hq.touch.mono (fun q _ hS=>?_)⟩
 rcases hS with rfl | e
 ·exact ⟨ht.low,98,tyOf_of ht.blk,.inr (.inr (.inl rfl))⟩
 ·exact ⟨(ht.rows.lt e).1,108,ownTy ht.rows e,.inr (.inr (.inr rfl))⟩
end
end Go.Proofs.YtfbggmbmgohiiaaGreat.tb
namespace Go.Proofs.YtfbggmbmgohiiaaGreat.tm
theorem tpV {n:Nat}:TP (fun _:Tm (n + 1)=>True) (cmpV (n:=n)):=by
 have h:=(ordT (n + 1)).tp
 refine ⟨fun a b=>?_,fun a b=>?_,fun a b d _ _ _ x y=>?_⟩
 ·unfold cmpV
  repeat' split
  all_goals first | exact h.range a b | simp
 ·have e:=h.anti a b
  unfold cmpV
  by_cases ha:validT a = true <;> by_cases hb:validT b = true <;> simp [ha,hb,e]
 ·unfold cmpV at *
  by_cases ha:validT a = true <;> by_cases hb:validT b = true <;> by_cases hd:validT d = true <;> simp [ha,hb,hd] at x y ⊢
  exact h.trans a b d (valid_formed ha) (valid_formed hb) (valid_formed hd) x y
variable {β:Type} {c:β→β→Int}
def leB (c:β→β→Int) (x y:β):Bool:=decide (c x y ≤ 0)
end Go.Proofs.YtfbggmbmgohiiaaGreat.tm
namespace Go.Proofs.YtfbggmbmgohiiaaGreat.tb
open Go.RowKit mem rec tm names
section
variable {N:Nat}
noncomputable def cmpH {N:Nat} (hs:Bool):Tm (N + 1)→Tm (N + 1)→Int:=if hs then thenC (fun x y=>cmpI (hashT x) (hashT y)) cmpV else cmpV
abbrev Vd {N:Nat}:Tm (N + 1)→Prop:=fun k=>validT k = true
theorem cmpV_eq {a b:Tm (N + 1)} (ha:validT a = true) (hb:validT b = true) (h:cmpV a b = 0):a = b:=by
 unfold cmpV at h
 rw [if_pos ha,if_pos hb] at h
 exact (ordT (N + 1)).eq a b (valid_formed ha) (valid_formed hb) h
theorem ordH (hs:Bool):Ord (Vd (N:=N)) (cmpH hs):=by
 cases hs
 ·exact ⟨tpV,fun a b ha hb h=>cmpV_eq ha hb h⟩
 ·refine ⟨(TP.comap tpI hashT).then tpV,fun a b ha hb h=>?_⟩
  have h:thenC (fun x y=>cmpI (hashT x) (hashT y)) cmpV a b = 0:=h
  unfold thenC at h
  split at h
  ·exact cmpV_eq ha hb h
  ·contradiction
theorem befH (hs:Bool) (x y:Tm (N + 1)):befB hs x y (hashT x) (hK hs y) = decide (cmpH hs x y < 0):=by
 cases hs
 ·rfl
 ·unfold befB hK
  rw [if_pos rfl,if_pos rfl]
  show _ = decide ((if cmpI (hashT x) (hashT y) = 0 then cmpV x y else cmpI (hashT x) (hashT y)) < 0)
  by_cases h1:hashT x < hashT y
  ·have h2:=cmpI_lt.2 h1
   have h3:¬ cmpI (hashT x) (hashT y) = 0:=by omega
   rw [if_neg h3,decide_eq_true h2,decide_eq_true h1]
   rfl
  ·by_cases h2:hashT x = hashT y
   ·rw [if_pos (cmpI_z.2 h2),decide_eq_false h1,h2]
    simp
   ·have h3:¬ cmpI (hashT x) (hashT y) < 0:=fun h=>h1 (cmpI_lt.1 h)
    rw [if_neg (fun h=>h2 (cmpI_z.1 h)),decide_eq_false h1,decide_eq_false h3]
    simp [h2]
def absR (t:TabE N):List (Tm (N + 1) × Tm (N + 1)):=t.rows.map (fun r=>(r.k,r.v))
structure GoodT (t:TabE N):Prop where
 hh:∀ r ∈ t.rows,r.h = hashT r.k
 vd:∀ r ∈ t.rows,validT r.k = true
 sd:SortR (cmpH t.hs) (absR t)
 nd:∀ r ∈ t.rows,nodesT r.k ≤ 100000000∧nodesT r.v ≤ 100000000
theorem findIdx_eq {α:Type} {p q:α→Bool}:∀ {l:List α},(∀ x ∈ l,p x = q x)→l.findIdx p = l.findIdx q
 | [],_=>rfl
 | a :: l,h=>by rw [List.findIdx_cons,List.findIdx_cons,h a List.mem_cons_self,findIdx_eq (l:=l) (fun x hx=>h x (List.mem_cons_of_mem _ hx))]
theorem findIdx_map' {α β:Type} (f:α→β) (p:β→Bool):∀ l:List α,(l.map f).findIdx p = l.findIdx (fun x=>p (f x))
 | []=>rfl
 | a :: l=>by rw [List.map_cons,List.findIdx_cons,List.findIdx_cons,findIdx_map' f p l]
variable {t:TabE N} {k v:Tm (N + 1)}
theorem GoodT.pos (h:GoodT t) (k:Tm (N + 1)):posK t k = posR (cmpH t.hs) (absR t) k:=by
 unfold posK keyAt posR absR
 rw [findIdx_map']
 refine findIdx_eq fun x hx=>?_
 rw [h.hh x hx,befH]
theorem GoodT.has (h:GoodT t) (k:Tm (N + 1)):hasK t k = hasR (cmpH t.hs) (absR t) k:=by
 unfold hasK hasR
 rw [h.pos k]
 unfold absR
 rw [List.getElem?_map]
 cases t.rows[posR (cmpH t.hs) (t.rows.map (fun r=>(r.k,r.v))) k]? <;> rfl
theorem GoodT.find (h:GoodT t) (hl:t.rows.length ≤ 1000000) (k:Tm (N + 1)):FindOK t k:=by
 refine ⟨fun x hx=>by have:=(h.nd x hx).1;omega,hl,fun i j hj hij hp=>?_⟩
 have hi:i < t.rows.length:=by omega
 have e1:=h.hh _ (List.getElem_mem hj)
 have e2:=h.hh _ (List.getElem_mem hi)
 dsimp only at hp ⊢
 rw [e1,befH] at hp
 rw [e2,befH]
 have hp:=of_decide_eq_true hp
 have h3:=List.pairwise_iff_getElem.1 h.sd i j (by unfold absR;rw [List.length_map];exact hi) (by unfold absR;rw [List.length_map];exact hj) hij
 unfold absR at h3
 rw [List.getElem_map,List.getElem_map] at h3
 exact decide_eq_true ((ordH t.hs).lt_trans h3 hp)
theorem GoodT.keys (h:GoodT t):∀ x ∈ absR t,Vd x.1:=fun x hx=>by
 obtain ⟨r,hr,rfl⟩:=List.mem_map.1 hx
 exact h.vd r hr
theorem GoodT.hasp (h:GoodT t) (hh:hasK t k = true):∃ hp:posK t k < t.rows.length,(t.rows[posK t k]).k = k:=by
 unfold hasK at hh
 by_cases hp:posK t k < t.rows.length
 ·rw [List.getElem?_eq_getElem hp] at hh
  exact ⟨hp,of_eqB hh⟩
 ·rw [List.getElem?_eq_none (by omega)] at hh
  cases hh
theorem setV_ins {l:List (RowE N)} {i:Nat} (hi:i ≤ l.length) (a:RowE N) (v:Tm (N + 1)) (u:Value):setV (insK l i a) i v u = l.take i ++ { a with v:=v,uv:=u } :: l.drop i:=by
 have hl:(l.take i).length = i:=by rw [List.length_take];omega
 have e:(insK l i a)[i]? = some a:=by
  unfold insK
  rw [List.append_assoc,List.getElem?_append_right (by omega),hl,Nat.sub_self]
  rfl
 unfold setV
 rw [e]
 unfold insK
 dsimp only
 rw [List.append_assoc,List.set_append_right _ _ (by omega),hl,Nat.sub_self]
 rfl
noncomputable def putRows (t:TabE N) (k v:Tm (N + 1)) (uk uv:Value):List (RowE N):=setV (midRows t k uk) (posK t k) v uv
theorem put_rows_mem (h:GoodT t) {uk uv:Value} {r:RowE N} (hr:r ∈ putRows t k v uk uv):(r.k = k∧r.v = v∧r.h = hashT k)∨∃ r0 ∈ t.rows,r.k = r0.k∧r.h = r0.h∧r.v = r0.v:=by
 unfold putRows midRows at hr
 cases hh:hasK t k
 ·rw [hh,if_neg (by decide),setV_ins (posK_le t k)] at hr
  rcases List.mem_append.1 hr with hr | hr
  ·exact .inr ⟨r,List.mem_of_mem_take hr,rfl,rfl,rfl⟩
  ·rcases List.mem_cons.1 hr with rfl | hr
   ·exact .inl ⟨rfl,rfl,rfl⟩
   ·exact .inr ⟨r,List.mem_of_mem_drop hr,rfl,rfl,rfl⟩
 ·rw [hh,if_pos rfl] at hr
  obtain ⟨hp,e⟩:=h.hasp hh
  rw [setV_of hp] at hr
  rcases List.mem_or_eq_of_mem_set hr with hr | rfl
  ·exact .inr ⟨r,hr,rfl,rfl,rfl⟩
  ·exact .inl ⟨e,rfl,(h.hh _ (List.getElem_mem hp)).trans (congrArg hashT e)⟩
theorem put_rows_abs (h:GoodT t) (uk uv:Value):(putRows t k v uk uv).map (fun r=>(r.k,r.v)) = putR (cmpH t.hs) (absR t) k v:=by
 unfold putRows midRows putR
 rw [← h.has,← h.pos]
 cases hh:hasK t k
 ·rw [if_neg (by decide),if_neg (by decide),setV_ins (posK_le t k)]
  unfold absR
  rw [List.map_append,List.map_cons,List.map_take,List.map_drop]
  rfl
 ·rw [if_pos rfl,if_pos rfl]
  obtain ⟨hp,e⟩:=h.hasp hh
  rw [setV_of hp,List.set_eq_take_append_cons_drop,if_pos hp]
  unfold absR
  rw [List.map_append,List.map_cons,List.map_take,List.map_drop,e]
theorem GoodT.put (h:GoodT t) (hk:validT k = true) (nk:nodesT k ≤ 100000000) (nv:nodesT v ≤ 100000000) {uk uv vr:Value}:GoodT { t with vr:=vr,rows:=putRows t k v uk uv }:=by
 refine ⟨fun r hr=>?_,fun r hr=>?_,?_,fun r hr=>?_⟩
 ·rcases put_rows_mem h hr with ⟨e,_,e2⟩ | ⟨r0,hr0,e1,e2,_⟩
  ·rw [e,e2]
  ·rw [e1,e2];exact h.hh r0 hr0
 ·rcases put_rows_mem h hr with ⟨e,_⟩ | ⟨r0,hr0,e1,_⟩
  ·rw [e];exact hk
  ·rw [e1];exact h.vd r0 hr0
 ·have e:absR { t with vr:=vr,rows:=putRows t k v uk uv } = putR (cmpH t.hs) (absR t) k v:=put_rows_abs h uk uv
  rw [e]
  exact putR_sort (ordH t.hs) h.sd hk h.keys v
 ·rcases put_rows_mem h hr with ⟨e,e2,_⟩ | ⟨r0,hr0,e1,_,e2⟩
  ·rw [e,e2];exact ⟨nk,nv⟩
  ·rw [e1,e2];exact h.nd r0 hr0
end
end Go.Proofs.YtfbggmbmgohiiaaGreat.tb
namespace Go.Proofs.YtfbggmbmgohiiaaGreat.tm
open Go.RowKit mem names
abbrev Tag (n:Nat):=Nat × Tm (n + 1) × Value
def encT {n:Nat} (x:Tag n):TF × Value:=(x.2.1.f,x.2.2)
variable {n:Nat} {w w':World} {B:Nat}
theorem ItemsAt.rows {l:List (Tm (n + 1))} {g o c:Nat} (h:ItemsAt w B (n + 1) (.slice (some ⟨g,o,none⟩) l.length c) l):∃ rs:List (TF × Value),rs.length = l.length∧(∀ j,(h1:j < rs.length)→(h2:j < l.length)→rs[j].1 = l[j].f∧ItemsAt w B n rs[j].2 l[j].items) ∧
 (∀ j u,(flatR rs)[j]? = some u→w.cell? ((⟨g,o,none⟩:Addr).add j) = some u)∧∀ u ∈ flatR rs,u.oneCell' = true:=by
 obtain ⟨p,c',e,h1,h2,h3⟩:=h
 simp only [Value.slice.injEq,true_and] at e
 obtain ⟨rfl,rfl⟩:=e
 have key:∀ k,k ≤ l.length→∃ rs:List (TF × Value),rs.length = k∧∀ j,(h1:j < rs.length)→(h2:j < l.length)→rs[j].1 = l[j].f∧ItemsAt w B n rs[j].2 l[j].items∧Cells w g (o + j * 9) rs[j].1 rs[j].2:=by
  intro k
  induction k with
  | zero=>intro _;exact ⟨[],rfl,fun j h=>by simp at h⟩
  | succ k ih =>
   intro hk
   obtain ⟨rs,hl,hr⟩:=ih (by omega)
   obtain ⟨g',o',e,hg,hc⟩:=h3 (by intro e;subst e;simp at hk)
   simp only [Option.some.injEq,Addr.mk.injEq,and_true] at e
   obtain ⟨rfl,rfl⟩:=e
   obtain ⟨u,hu1,hu2⟩:=hc k (by omega)
   refine ⟨rs ++ [((l[k]'(by omega)).f,u)],by simp [hl],fun j h1 h2=>?_⟩
   by_cases hj:j < rs.length
   ·rw [List.getElem_append_left hj];exact hr j hj h2
   ·have:j = k:=by simp at h1;omega
    subst this
    rw [List.getElem_append_right (by omega)]
    simp only [hl,Nat.sub_self,List.getElem_cons_zero]
    first | exact ⟨rfl,hu2,hu1⟩ | exact ⟨trivial,hu2,hu1⟩
 obtain ⟨rs,hl,hr⟩:=key l.length (Nat.le_refl _)
 refine ⟨rs,hl,fun j h1 h2=>⟨(hr j h1 h2).1,(hr j h1 h2).2.1⟩,fun j u hj=>?_,fun u hu=>?_⟩
 ·rw [Addr.add_lit]
  have hjl:j < (flatR rs).length:=(List.getElem?_eq_some_iff.1 hj).1
  rw [flatR_len] at hjl
  have hq:j / 9 < rs.length:=by omega
  have:=(hr (j / 9) hq (by omega)).2.2.all (j % 9) (Nat.mod_lt _ (by omega))
  rw [← flatR_get rs (j / 9) hq (j % 9) (Nat.mod_lt _ (by omega))] at this
  rw [show j / 9 * 9 + j % 9 = j by omega,show o + j / 9 * 9 + j % 9 = o + j by omega] at this
  rw [this,hj]
 ·unfold flatR at hu
  rw [List.mem_flatMap] at hu
  obtain ⟨r,hr1,hr2⟩:=hu
  obtain ⟨j,hj,rfl⟩:=List.getElem_of_mem hr1
  obtain ⟨_,hi,_⟩:=hr j hj (by omega)
  obtain ⟨q,c2,e,_⟩:=hi.shape
  rw [e] at hr2
  exact nine_one _ _ _ _ u hr2
def RRow (wr:World) (B base:Nat) (v:Value) (rs:List (TF × Value)) (O:List (Tm (n + 1))):Prop :=
 wr.ownsRow base 24 9 v O.length (flatR rs)∧rs.length = O.length∧∀ j,(h1:j < rs.length)→(h2:j < O.length)→rs[j].1 = O[j].f∧ItemsAt wr B n rs[j].2 O[j].items
theorem RRow.nil (wr:World) (B base:Nat):RRow (n:=n) wr B base (.slice none 0 0) [] []:=⟨World.ownsRow_nil _ _ _ _,rfl,fun j h=>by simp at h⟩
theorem RRow.items {wr:World} {B base:Nat} {v:Value} {rs:List (TF × Value)} {O:List (Tm (n + 1))} (h:RRow wr B base v rs O) (hB:B ≤ wr.heap.size):ItemsAt wr wr.heap.size (n + 1) v O:=by
 obtain ⟨h1,h2,h3⟩:=h
 rcases h1.2 with ⟨rfl,h0⟩ | ⟨g,cap,cur,rfl,hbg,hg,hc,hm,hs,ht⟩
 ·have:O = []:=List.eq_nil_of_length_eq_zero h0
  subst this
  exact ItemsAt.nil_any (by unfold maxLen;omega)
 ·refine ⟨_,_,rfl,hc,hm,fun _=>⟨g,0,rfl,(Array.getElem?_eq_some_iff.1 hg).1,fun j hj=>?_⟩⟩
  have hj':j < rs.length:=by omega
  have:=row_cells h1 (by omega) j hj'
  refine ⟨rs[j].2,?_,(h3 j hj' hj).2.more hB⟩
  rw [Nat.zero_add,← (h3 j hj' hj).1]
  exact this
theorem RRow.below {wr w':World} {B base:Nat} {v:Value} {rs:List (TF × Value)} {O:List (Tm (n + 1))} (h:RRow wr B base v rs O) (hb:Below wr.heap.size wr w') (hB:B ≤ wr.heap.size):RRow w' B base v rs O:=by
 obtain ⟨h1,h2,h3⟩:=h
 refine ⟨row_same h1 (fun k hk=>hb.block k ?_),h2,fun j a b=>⟨(h3 j a b).1,(h3 j a b).2.below hb hB⟩⟩
 rcases h1.2 with ⟨rfl,h0⟩ | ⟨g,cap,cur,rfl,hbg,hg,_⟩
 ·simp [Value.ownBlock] at hk
 ·simp [Value.ownBlock] at hk
  subst hk
  exact (Array.getElem?_eq_some_iff.1 hg).1
theorem RRow.push {wr w':World} {B base:Nat} {v v':Value} {rs rs':List (TF × Value)} {O O':List (Tm (n + 1))} (h:RRow wr B base v rs O) (hl:rs'.length = O'.length) (h':∀ j,(h1:j < rs'.length)→(h2:j < O'.length)→rs'[j].1 = O'[j].f∧ItemsAt wr B n rs'[j].2 O'[j].items)
 (hown:w'.ownsRow base 24 9 v' (O.length + O'.length) (flatR rs ++ flatR rs')) (hg:wr.grownBy w' v.ownBlock) (hv:∀ k,v.ownBlock = some k→B ≤ k) (hB:B ≤ wr.heap.size):RRow w' B base v' (rs ++ rs') (O ++ O'):=by
 obtain ⟨h1,h2,h3⟩:=h
 have hs:∀ g,g < B→w'.heap[g]? = wr.heap[g]?:=fun g hg'=>hg.block g (by omega) (fun e=>by have:=hv g e.symm;omega)
 refine ⟨by rw [List.length_append,flatR_append];exact hown,by simp [h2,hl],fun j a b=>?_⟩
 by_cases hj:j < rs.length
 ·rw [List.getElem_append_left hj,List.getElem_append_left (by omega)]
  exact ⟨(h3 j hj (by omega)).1,(h3 j hj (by omega)).2.same hs⟩
 ·rw [List.getElem_append_right (by omega),List.getElem_append_right (by omega)]
  have e:j - rs.length = j - O.length:=by omega
  have:=h' (j - O.length) (by simp at a b;omega) (by simp at a b;omega)
  simp only [e]
  exact ⟨this.1,this.2.same hs⟩
theorem RRow.shape {wr:World} {B base:Nat} {v:Value} {rs:List (TF × Value)} {O:List (Tm (n + 1))} (h:RRow wr B base v rs O):∃ p c,v = .slice p O.length c:=by
 rcases h.1.2 with ⟨rfl,h0⟩ | ⟨g,cap,cur,rfl,_⟩
 ·exact ⟨_,_,by rw [h0]⟩
 ·exact ⟨_,_,rfl⟩
end Go.Proofs.YtfbggmbmgohiiaaGreat.tm
