/- Texts of this seat, one behind the other: TmJ, TmK, TmL. No condition beyond theirs. -/
import Derived.Laws.EntriesVeiled
import Derived.Test.YtfbggmbmgohiiaaGreatK08
import Derived.Deep.RegionHeld3
import Derived.Deep.CutRange
set_option linter.unusedSimpArgs false
set_option linter.unusedVariables false
set_option maxHeartbeats 1000000
set_option maxRecDepth 100000
namespace Go.Proofs.YtfbggmbmgohiiaaGreat.tm
open Go.RowKit mem names
def fnsV:Value:=.agg #[.func (.func 141) #[] #[],.func (.func 142) #[] #[],.func (.func 143) #[] #[],.func (.func 138) #[] #[],.func (.func 144) #[] #[],.func (.func 145) #[] #[],.func (.func 138) #[] #[],.func (.func 146) #[] #[],.func (.func 147) #[] #[],.func (.func 148) #[] #[],.func (.func 149) #[] #[]]
theorem kinds (w:World):Calls Tryz.prog 123 #[] w fun e w'=>e = .returned fnsV∧Below w.heap.size w w':=by
 unfold fnsV
 go_enter Tryz.func123,Tryz.ntmps123
 go_wp2_with fail
 exact bodyPost_ret (v:=.agg #[.func (.func 141) #[] #[],.func (.func 142) #[] #[],.func (.func 143) #[] #[],.func (.func 138) #[] #[],.func (.func 144) #[] #[],.func (.func 145) #[] #[],.func (.func 138) #[] #[],.func (.func 146) #[] #[],.func (.func 147) #[] #[],.func (.func 148) #[] #[],.func (.func 149) #[] #[]]) (by simp [results,Tryz.results123,go_sem, *]) rfl ⟨rfl,by (repeat' (first | with_reducible exact Below.refl _ _ | with_reducible exact Nat.le_refl _ | with_reducible refine Below.setCell ?_ ?_ _ | with_reducible refine Below.alloc ?_ ?_ _ | (simp;done) | (simp;omega)))⟩
def fnum (k:Int):Nat:=if k = 0 then 141 else if k = 1 then 142 else if k = 2 then 143 else if k = 3 then 138 else if k = 4 then 144 else if k = 5 then 145 else if k = 6 then 138 else if k = 7 then 146 else if k = 8 then 147 else if k = 9 then 148 else 149
theorem last_cell {w:World} {B n:Nat} {p:Option Addr} {m c:Nat} {l:List (Tm n)} (h:ItemsAt w B n (.slice p m c) l) (h2:2 ≤ m):∃ g0 o0,p = some ⟨g0,o0,none⟩∧w.cell? ⟨g0,o0 + (m - 1) * 9,none⟩ = some (.int .i64 (lastK n l))∧g0 < B:=by
 obtain ⟨p',c',e,_,_⟩:=h.shape
 simp only [Value.slice.injEq] at e
 obtain ⟨rfl,rfl,rfl⟩:=e
 cases n with
 | zero=>rw [Tm.nil0 l] at h2;simp at h2
 | succ n =>
  obtain ⟨g,o,c2,e,_,_,hg,hx⟩:=h.at_ (by intro e;subst e;simp at h2)
  simp only [Value.slice.injEq] at e
  obtain ⟨u,hC,_⟩:=hx (l.length - 1) (by omega)
  refine ⟨g,o,e.1,?_,hg⟩
  have:lastK (n + 1) l = (l[l.length - 1]'(by omega)).f.kind:=by
   change (Option.map (fun t:Tm (n + 1)=>t.f.kind) (List.getLast? l)).getD 0 = _
   rw [List.getLast?_eq_getElem?,List.getElem?_eq_getElem (by omega)];rfl
  rw [this];exact hC.c0
theorem kindAll {n:Nat} (f:TF) (v:Value) (l:List (Tm n)) (w:World) (B:Nat) (hB:B ≤ w.heap.size) (hI:ItemsAt w B n v l) (h0:0 ≤ f.kind) (h1:f.kind ≤ 10):Calls Tryz.prog (fnum f.kind) #[aggV f v] w (KPost f v l.length (lastK n l) w):=by
 obtain ⟨p,c,rfl,hn,hc⟩:=hI.shape
 unfold maxLen at hc
 have hlast:=fun h2=>last_cell hI h2
 obtain ⟨k,i,g,nm,fn,ar,by_,bt⟩:=f
 dsimp only at h0 h1 ⊢
 have ways:k = 0∨k = 1∨k = 2∨k = 3∨k = 4∨k = 5∨k = 6∨k = 7∨k = 8∨k = 9∨k = 10:=by omega
 rcases ways with rfl | rfl | rfl | rfl | rfl | rfl | rfl | rfl | rfl | rfl | rfl
 ·exact kind0 i g nm fn ar by_ bt p _ c _ w hn (by omega)
 ·exact kindInt i g nm fn ar by_ bt p _ c _ w hn (by omega)
 ·exact kindAtom i g nm fn ar by_ bt p _ c _ w hn (by omega)
 ·exact kindRef i g nm fn ar by_ bt p _ c _ w hn (by omega)
 ·exact kindClosure i g nm fn ar by_ bt p _ c _ w hn (by omega)
 ·exact kindExport i g nm fn ar by_ bt p _ c _ w hn (by omega)
 ·exact kindPid i g nm fn ar by_ bt p _ c _ w hn (by omega)
 ·exact kindTuple i g nm fn ar by_ bt p _ c _ w hn (by omega)
 ·exact kindNil i g nm fn ar by_ bt p _ c _ w hn (by omega)
 ·exact kindList i g nm fn ar by_ bt p _ c _ w hn (by omega) (fun h2=>by obtain ⟨g0,o0,e1,e2,e3⟩:=hlast h2;exact ⟨g0,o0,e1,e2,by omega⟩)
 ·exact kindBits i g nm fn ar by_ bt p _ c _ w
def measC (s:Int):Obj:=.cells #[.func (.func 141) #[] #[],.func (.func 142) #[] #[],.func (.func 143) #[] #[],.func (.func 138) #[] #[],.func (.func 144) #[] #[],.func (.func 145) #[] #[],.func (.func 138) #[] #[],.func (.func 146) #[] #[],.func (.func 147) #[] #[],.func (.func 148) #[] #[],.func (.func 149) #[] #[],.int .i64 s] 159
def Meas (w:World) (g:Nat) (s:Int):Prop:=w.heap[g]? = some (measC s)
theorem Meas.fn {w:World} {g:Nat} {s:Int} (h:Meas w g s) (k:Nat) (hk:k ≤ 10):w.cell? ⟨g,k,none⟩ = some (.func (.func (fnum k)) #[] #[]):=by
 unfold Meas measC at h
 have ways:k = 0∨k = 1∨k = 2∨k = 3∨k = 4∨k = 5∨k = 6∨k = 7∨k = 8∨k = 9∨k = 10:=by omega
 rcases ways with rfl | rfl | rfl | rfl | rfl | rfl | rfl | rfl | rfl | rfl | rfl <;> (simp only [World.cell?,h];rfl)
theorem Meas.size {w:World} {g:Nat} {s:Int} (h:Meas w g s):w.cell? ⟨g,11,none⟩ = some (.int .i64 s):=by
 unfold Meas measC at h;simp only [World.cell?,h];rfl
theorem Meas.frozen {w:World} {g:Nat} {s:Int} (h:Meas w g s) (o:Nat):w.frozen? ⟨g,o,none⟩ = false:=by
 unfold Meas measC at h;simp only [World.frozen?,h];simp
theorem Meas.lt {w:World} {g:Nat} {s:Int} (h:Meas w g s):g < w.heap.size:=by
 rcases Nat.lt_or_ge g w.heap.size with h1 | h1
 ·exact h1
 ·unfold Meas at h;rw [Array.getElem?_eq_none h1] at h;cases h
theorem Meas.set {w:World} {g:Nat} {s:Int} (h:Meas w g s) (s':Int):Meas (w.setCell ⟨g,11,none⟩ (.int .i64 s')) g s':=by
 have hl:=h.lt
 unfold Meas measC at *
 unfold World.setCell
 rw [Array.getElem?_modify,if_pos rfl,h]
 rfl
theorem Meas.block {w w':World} {g:Nat} {s:Int} (h:Meas w g s) (e:w'.heap[g]? = w.heap[g]?):Meas w' g s:=by
 unfold Meas at *;rw [e];exact h
def MPost (g:Nat) (s:Int) (b:Bool) (nodes:Nat) (whole:Int) (w:World) (e:Ending) (w':World):Prop :=
 e = .returned (.bool b)∧∃ s',Meas w' g s'∧TouchB (fun k=>k = g) w w'∧0 ≤ s'∧s' ≤ s + 300 * nodes - 1∧(b = true→s' = s + whole)
def ConS (n:Nat):Prop:=∀ (w:World) (B g z:Nat) (v:Value) (l:List (Tm n)) (s:Int),B ≤ w.heap.size→ItemsAt w B n v l→Meas w g s→B ≤ g→w.cell? ⟨z,0,none⟩ = some (.pointer (some ⟨g,0,none⟩))→z < w.heap.size→z ≠ g→0 ≤ s→s + 300 * (nodesL n l:Int) - l.length ≤ 1000000000000 →
 Calls Tryz.prog 150 #[v,.func (.func 151) #[] #[.pointer (some ⟨z,0,none⟩)]] w fun e w'=>e = .returned (.bool (!formedL n l))∧∃ s',Meas w' g s'∧TouchB (fun k=>k = g) w w'∧0 ≤ s'∧s' ≤ s + 300 * nodesL n l - l.length∧(formedL n l = true→s' = s + wholeL n l)
def OfS (n:Nat):Prop:=∀ (w:World) (B g:Nat) (v:Value) (t:Tm (n + 1)) (s:Int),B ≤ w.heap.size→ItemsAt w B n v t.items→Meas w g s→B ≤ g→0 ≤ s→s + 300 * (nodesT t:Int) - 1 ≤ 1000000000000 →
 Calls Tryz.prog 124 #[.pointer (some ⟨g,0,none⟩),aggV t.f v] w (MPost g s (formedT t) (nodesT t) (wholeT t) w)
theorem ofNo {n:Nat} (w:World) (g:Nat) (v:Value) (t:Tm (n + 1)) (s:Int) (hM:Meas w g s) (hs:0 ≤ s) (hk:¬ (0 ≤ t.f.kind∧t.f.kind ≤ 10)) (hv:∃ p m c,v = .slice p m c) :
 Calls Tryz.prog 124 #[.pointer (some ⟨g,0,none⟩),aggV t.f v] w (MPost g s (formedT t) (nodesT t) (wholeT t) w):=by
 have hno:formedT t = false:=by
  unfold formedT okT
  rw [inB_f hk];rfl
 rw [hno]
 obtain ⟨p,m,c,rfl⟩:=hv
 have hfin:∀ w',TouchB (fun k=>k = g) w w'→w'.heap[g]? = w.heap[g]?→MPost g s false (nodesT t) (wholeT t) w (.returned (.bool false)) w':=fun w' hb he=>⟨rfl,s,hM.block he,hb,hs,by have:1 ≤ nodesT t:=(by unfold nodesT;omega);omega,fun h=>by cases h⟩
 have HF:=Lib.hid hfin;clear hfin
 have hgl:=hM.lt
 clear hM hno hs
 unfold aggV
 have hN1:1 ≤ nodesT t:=by unfold nodesT;omega
 generalize nodesT t = N at *
 generalize wholeT t = W at *
 generalize t.f = f at *
 obtain ⟨k,i,gg,nm,fn,ar,by_,bt⟩:=f
 dsimp only at hk ⊢
 by_cases h0:k < 0
 ·have q:decide (k < 0) = true:=decide_eq_true h0
  go_enter Tryz.func124,Tryz.ntmps124
  go_wp2_with fail
  go_ret
  exact HF.out _ (((TouchB.refl _ _).alloc _).alloc _) (by rw [Below.heap_alloc _ _ _ (by simp;omega),Below.heap_alloc _ _ _ hgl])
 ·have h1:11 ≤ k:=by omega
  have q:decide (k < 0) = false:=decide_eq_false h0
  have q:decide (11 ≤ k) = true:=decide_eq_true h1
  go_enter Tryz.func124,Tryz.ntmps124
  go_wp2_with fail
  go_ret
  exact HF.out _ (((TouchB.refl _ _).alloc _).alloc _) (by rw [Below.heap_alloc _ _ _ (by simp;omega),Below.heap_alloc _ _ _ hgl])
theorem box_two {w:World} {g:Nat} {f:TF} {v:Value}:((w.alloc (.cells #[.pointer (some ⟨g,0,none⟩)] 154)).alloc (cells9 f v)).heap[w.heap.size]? = some (.cells #[.pointer (some ⟨g,0,none⟩)] 154)∧((w.alloc (.cells #[.pointer (some ⟨g,0,none⟩)] 154)).alloc (cells9 f v)).heap[w.heap.size + 1]? = some (cells9 f v):=by
 have h1:=(MapKept.heap_alloc w (.cells #[.pointer (some ⟨g,0,none⟩)] 154)).1
 have h2:=(MapKept.heap_alloc (w.alloc (.cells #[.pointer (some ⟨g,0,none⟩)] 154)) (cells9 f v)).1
 exact ⟨by rw [Below.heap_alloc _ _ _ (by simp)];exact h1,by simpa using h2⟩
theorem set_blk {w:World} {z o:Nat} {u:Value} {c:Array Value} {e:TypeId} {fz:Nat × Nat} (h:w.heap[z]? = some (.cells c e fz)):(w.setCell ⟨z,o,none⟩ u).heap[z]? = some (.cells (c.setIfInBounds o u) e fz):=by
 unfold World.setCell
 rw [Array.getElem?_modify,if_pos rfl,h]
 rfl
theorem nine_sets {w:World} {z:Nat} (f:TF) (v:Value) (h:w.heap[z]? = some (cells9 zeroF nilV)):Nine (((((((((w.setCell ⟨z,0,none⟩ (.int .i64 f.kind)).setCell ⟨z,1,none⟩ (.int .i64 f.int)).setCell ⟨z,2,none⟩ (.int .i64 f.gen)).setCell ⟨z,3,none⟩ (.string f.name)).setCell ⟨z,4,none⟩ (.string f.func)).setCell ⟨z,5,none⟩ (.int .i64 f.arity)).setCell ⟨z,6,none⟩ v).setCell ⟨z,7,none⟩ (.string f.bytes)).setCell ⟨z,8,none⟩ (.int .i64 f.bits)) z f v:=by
 unfold cells9 zeroF nilV at h
 dsimp only at h
 have h:=set_blk (o:=0) (u:=.int .i64 f.kind) h
 have h:=set_blk (o:=1) (u:=.int .i64 f.int) h
 have h:=set_blk (o:=2) (u:=.int .i64 f.gen) h
 have h:=set_blk (o:=3) (u:=.string f.name) h
 have h:=set_blk (o:=4) (u:=.string f.func) h
 have h:=set_blk (o:=5) (u:=.int .i64 f.arity) h
 have h:=set_blk (o:=6) (u:=v) h
 have h:=set_blk (o:=7) (u:=.string f.bytes) h
 have h:=set_blk (o:=8) (u:=.int .i64 f.bits) h
 refine nine_of (h.trans ?_)
 simp [cells9]
theorem one_blk (W0 w1:World) (hb:Below (W0.drew.alloc (cells9 zeroF nilV)).heap.size (W0.drew.alloc (cells9 zeroF nilV)) w1):w1.heap[W0.heap.size]? = some (cells9 zeroF nilV):=by
 refine ((hb.block _ (by simp)).trans ?_)
 exact (MapKept.heap_alloc W0.drew (cells9 zeroF nilV)).1
theorem one_box (W0 w1:World) (hb:Below (W0.drew.alloc (cells9 zeroF nilV)).heap.size (W0.drew.alloc (cells9 zeroF nilV)) w1):Nine w1 W0.heap.size zeroF nilV:=by
 refine nine_of ((hb.block _ (by simp)).trans ?_)
 exact (MapKept.heap_alloc W0.drew (cells9 zeroF nilV)).1
theorem okT_eq {n:Nat} (t:Tm (n + 1)) {f bf:TF} {p p3:Option Addr} {len c n3 c3:Nat} {ok:Bool} (h0:0 ≤ f.kind) (h1:f.kind ≤ 10) (hF:t.f = f) (hbf:bareF f = bf) (hbv:bareV f (.slice p len c) = .slice p3 n3 c3) (hlen:t.items.length = len) (hok:okF f len (lastK n t.items) = ok) :
 okT t = (ok && (eqB { bf with kind:=0 } zeroF && decide (n3 = 0))):=by
 unfold okT bareOK
 rw [hF,hlen,hbf,hok,inB_t ⟨h0,h1⟩,Bool.true_and]
 congr 3
 unfold bareV nilV at hbv
 split at hbv
 ·rename_i h;rw [if_pos h];simp only [Value.slice.injEq] at hbv;rw [hbv.2.1]
 ·rename_i h;rw [if_neg h];simp only [Value.slice.injEq] at hbv;rw [hbv.2.1]
theorem formedT_eq {n:Nat} (t:Tm (n + 1)) {b:Bool} (h:okT t = b):formedT t = (b && formedL n t.items):=by unfold formedT;rw [h]
theorem size_bound {f:TF} {len:Nat} {last:Int} (hok:okF f len last = true) (hN:True):1 ≤ sizeF f len∧(sizeF f len ≤ (len:Int) - 1∨sizeF f len ≤ 257)∧(f.kind = 9→2 ≤ len)∧(f.kind = 10→0 ≤ f.bits∧f.bits ≤ 16384)∧(f.kind ≠ 9→sizeF f len ≤ 257):=by
 obtain ⟨k,i,g,nm,fn,ar,by_,bt⟩:=f
 unfold sizeF
 unfold okF at hok
 dsimp only at *
 by_cases h9:k = 9
 ·subst h9
  simp at hok
  refine ⟨by simp;omega,.inl (by simp),fun _=>hok.1,fun h=>by omega,fun h=>absurd rfl h⟩
 ·by_cases h10:k = 10
  ·subst h10
   simp [okBits,inB] at hok
   have hb:=hok.1.1
   refine ⟨by simp;omega,.inr (by simp;omega),fun h=>by omega,fun _=>by omega,fun _=>by simp;omega⟩
  ·rw [if_neg h9,if_neg h10]
   exact ⟨by omega,.inr (by omega),fun h=>absurd h h9,fun h=>absurd h h10,fun _=>by omega⟩
theorem closure {n:Nat} (ho:OfS n) (w:World) (B g z:Nat) (v:Value) (t:Tm (n + 1)) (s:Int) (hB:B ≤ w.heap.size) (hI:ItemsAt w B n v t.items) (hM:Meas w g s) (hg:B ≤ g) (hp:w.cell? ⟨z,0,none⟩ = some (.pointer (some ⟨g,0,none⟩))) (hz:z < w.heap.size) (hs:0 ≤ s) (hss:s + 300 * (nodesT t:Int) - 1 ≤ 1000000000000) :
 Calls Tryz.prog 151 #[aggV t.f v,.pointer (some ⟨z,0,none⟩)] w fun e w'=>e = .returned (.bool (!formedT t))∧∃ s',Meas w' g s'∧TouchB (fun k=>k = g) w w'∧0 ≤ s'∧s' ≤ s + 300 * nodesT t - 1∧(formedT t = true→s' = s + wholeT t):=by
 obtain ⟨p,c,rfl,_,_⟩:=hI.shape
 have hgl:=hM.lt
 have hO:=fun (W:World) (hb:Below w.heap.size w W)=>ho W B g _ t s (Nat.le_trans hB hb.size) (hI.below hb hB) (hM.block (hb.block g hgl)) hg hs hss
 have HO:=Lib.hid hO
 clear hO hI hM
 unfold MPost at HO
 generalize formedT t = r at *
 generalize (nodesT t) = N at *
 generalize (wholeT t) = W at *
 generalize t.f = f at *
 generalize t.items.length = len at *
 obtain ⟨k,i,gg,nm,fn,ar,by_,bt⟩:=f
 unfold aggV at *
 dsimp only at *
 go_enter Tryz.func151,Tryz.ntmps151
 go_wp2_with fail
 refine (HO.out _ ((Below.refl _ _).alloc (Nat.le_refl _) _)).mono ?_
 rintro e w' ⟨rfl,s',m1,m2,m3,m4,m5⟩
 have HM:=Lib.hid m1
 have HE:=Lib.hid m5
 clear m1 m5
 go_wp2_with fail
 go_ret
 refine ⟨rfl,s',HM.out,?_,m3,m4,HE.out⟩
 exact ((TouchB.refl _ w).alloc _).trans m2 (fun _ _ e=>e)
def IPost {n:Nat} (g:Nat) (s:Int) (l:List (Tm n)) (w:World) (e:Ending) (w':World):Prop :=
 ∃ r:Int,e = .returned (.int .i64 r)∧(formedL n l = true→r = -1)∧(formedL n l = false→0 ≤ r)∧∃ s',Meas w' g s'∧TouchB (fun k=>k = g) w w'∧0 ≤ s'∧s' ≤ s + 300 * nodesL n l - l.length∧(formedL n l = true→s' = s + wholeL n l)
theorem search0 (w:World) (g z:Nat) (p:Option Addr) (c:Nat) (s:Int) (hM:Meas w g s) (hs:0 ≤ s) (l:List (Tm 0)) :
 Calls Tryz.prog 158 #[.slice p 0 c,.func (.func 151) #[] #[.pointer (some ⟨z,0,none⟩)]] w (IPost g s l w):=by
 have hfin:IPost g s l w (.returned (.int .i64 (-1))) w:=⟨-1,rfl,fun _=>rfl,(fun h=>by cases h),s,hM,TouchB.refl _ _,hs,by rw [Tm.nil0 l];simp [nodesL],fun _=>by simp [wholeL]⟩
 have HF:=Lib.hid hfin
 clear hfin hM
 go_enter Tryz.func158,Tryz.ntmps158
 go_wp2_with fail
 refine wp_loop_rounds 1 ?_
 rw [rounds_succ]
 go_wp2_with fail
 go_ret
 exact HF.out
theorem search1 {n:Nat} (ho:OfS n) (w:World) (B g z:Nat) (v:Value) (l:List (Tm (n + 1))) (s:Int) (hB:B ≤ w.heap.size) (hI:ItemsAt w B (n + 1) v l) (hM:Meas w g s) (hg:B ≤ g) (hp:w.cell? ⟨z,0,none⟩ = some (.pointer (some ⟨g,0,none⟩))) (hz:z < w.heap.size) (hzg:z ≠ g) (hs:0 ≤ s) (hss:s + 300 * (nodesL (n + 1) l:Int) - l.length ≤ 1000000000000) :
 Calls Tryz.prog 158 #[v,.func (.func 151) #[] #[.pointer (some ⟨z,0,none⟩)]] w (IPost g s l w):=by
 obtain ⟨p,c,rfl,hlc,hcm⟩:=hI.shape
 have hgl:=hM.lt
 have HI:=Lib.hid hI
 have HM:=Lib.hid hM
 have HP:=Lib.hid hp
 have HS:=Lib.hid hss
 clear hI hM hp hss
 unfold maxLen at hcm
 go_enter Tryz.func158,Tryz.ntmps158
 go_wp2_with fail
 go_loopw [8] (fun s8 wr=>∃ (k:Nat) (sk:Int),s8 = .int .i64 k∧k ≤ l.length∧Hid (Meas wr g sk)∧TouchB (fun k=>k = g) w wr∧0 ≤ sk∧Hid (sk = s + wholeL (n + 1) (l.take k))∧Hid (∀ j,(h:j < l.length)→j < k→formedT l[j] = true)∧Hid (sk ≤ s + 300 * nodesL (n + 1) (l.take k) - k)) (fun s8 _=>l.length - (intOf s8).toNat)
 case atStart =>
  refine ⟨0,s,rfl,by omega,HM,TouchB.refl _ _,hs,Lib.hid ?_,Lib.hid (fun j _ h=>by omega),Lib.hid ?_⟩
  ·simp [wholeL]
  ·simp [nodesL]
 case round =>
  obtain ⟨k,sk,rfl,hk,hMk,hT,hsk,hw,hall,hbd⟩:=hrel
  by_cases hlt:k < l.length
  ·have hI2:=HI.out.same (w':=wr) (fun q hq=>hT.block q (by omega) (by omega))
   obtain ⟨g1,o1,c1,e1,_,_,hg1,hx1⟩:=hI2.at_ (by intro e;subst e;simp at hlt)
   simp only [Value.slice.injEq] at e1
   obtain ⟨rfl,_,rfl⟩:=e1
   obtain ⟨u1,hC1,hI1⟩:=hx1 k hlt
   clear hx1 hI2
   have hpk:wr.cell? ⟨z,0,none⟩ = some (.pointer (some ⟨g,0,none⟩)):=(hT.cell (by exact hz) hzg).trans HP.out
   have hnm:=nodes_mem hlt
   have hnd:=nodes_len (n + 1) (l.drop (k + 1))
   simp only [List.length_drop] at hnd
   have hCl:=closure ho wr B g z u1 l[k] sk (Nat.le_trans hB hT.size) hI1 hMk.out hg hpk (Nat.lt_of_lt_of_le hz hT.size) hsk (by have:=HS.out;have:=hbd.out;omega)
   have hsnoc:=whole_snoc l k hlt
   have HSN:=Lib.hid hsnoc
   have hnb:∀ s':Int,s' ≤ sk + 300 * nodesT l[k] - 1→s' ≤ s + 300 * nodesL (n + 1) l - l.length∧s' ≤ s + 300 * nodesL (n + 1) (l.take (k + 1)) - ((k:Int) + 1):=fun s' h=>by
    have:=hbd.out
    refine ⟨by omega,?_⟩
    have e:nodesL (n + 1) (l.take (k + 1)) = nodesL (n + 1) (l.take k) + nodesT l[k]:=by
     rw [List.take_succ_eq_append_getElem hlt]
     unfold nodesL nodesT
     simp only [List.map_append,List.map_cons,List.map_nil,List.sum_append,List.sum_cons,List.sum_nil];omega
    rw [e];omega
   have HNB:=Lib.hid hnb
   clear hnb hsnoc hnm hnd hMk
   obtain ⟨x0,x1,x2,x3,x4,x5,x6,x7,x8⟩:=hC1
   have HNO:=Lib.hid (formed_no hlt)
   have HYES:Hid (formedT l[k] = true→∀ j,(h:j < l.length)→j < k + 1→formedT l[j] = true):=Lib.hid (fun h j hj hjk=>by
    by_cases e:j = k
    ·subst e;exact h
    ·exact hall.out j hj (by omega))
   have HCl:=Lib.hid hCl
   clear hCl hI1
   unfold aggV at HCl
   generalize l[k] = x at *
   generalize x.f = xf at *
   go_wp2_with fail
   refine HCl.out.mono ?_
   rintro e w2 ⟨rfl,s2,m1,m2,m3,m4,m5⟩
   have HM2:=Lib.hid m1
   have hT2:TouchB (fun k=>k = g) w w2:=hT.trans m2 (fun _ _ e=>e)
   obtain ⟨b1,b2⟩:=HNB.out s2 m4
   by_cases hf:formedT x = true
   ·have h5:=Lib.hid (m5 hf)
    have hY:=HYES.out hf
    have HY:=Lib.hid hY
    have B2:=Lib.hid b2
    clear hY b1 b2 m1 m4 m5 HNB
    rw [hf]
    go_wp2_with fail
    go_roundw
    case rel =>
     refine ⟨k + 1,s2,by go_num,by omega,HM2,hT2,m3,Lib.hid ?_,HY,Lib.hid ?_⟩
     ·rw [HSN.out,h5.out,hw.out];omega
     ·have:=B2.out;push_cast;omega
    case measure=>simp [intOf];omega
   ·have hf:formedT x = false:=by simpa using hf
    have hN:=Lib.hid (HNO.out hf)
    rw [hf]
    have hB1:=Lib.hid b1
    clear b1 b2 m1 m4 m5 HNB
    go_wp2_with fail
    go_ret
    refine ⟨k,rfl,(fun h=>by rw [hN.out] at h;cases h),(fun _=>by omega),s2,HM2.out,hT2,m3,hB1.out,(fun h=>by rw [hN.out] at h;cases h)⟩
  ·have hfin:formedL (n + 1) l = true:=formed_yes (fun j hj=>hall.out j hj (by omega))
   have HF:=Lib.hid hfin
   have e:k = l.length:=by omega
   have hw':sk = s + wholeL (n + 1) l:=by have:=hw.out;rwa [List.take_of_length_le (by omega)] at this
   have hb':sk ≤ s + 300 * nodesL (n + 1) l - l.length:=by have:=hbd.out;rw [List.take_of_length_le (by omega)] at this;omega
   have HW:=Lib.hid hw'
   have HB:=Lib.hid hb'
   clear hfin e hw' hb'
   go_wp2_with fail
   go_ret
   exact ⟨-1,rfl,fun _=>rfl,(fun h=>by rw [HF.out] at h;cases h),sk,hMk.out,hT,hsk,HB.out,fun _=>HW.out⟩
theorem contains {n:Nat} (l:List (Tm n)) (g:Nat) (s:Int) (v fv:Value) (w:World) (h:Calls Tryz.prog 158 #[v,fv] w (IPost g s l w)) :
 Calls Tryz.prog 150 #[v,fv] w fun e w'=>e = .returned (.bool (!formedL n l))∧∃ s',Meas w' g s'∧TouchB (fun k=>k = g) w w'∧0 ≤ s'∧s' ≤ s + 300 * nodesL n l - l.length∧(formedL n l = true→s' = s + wholeL n l):=by
 have HH:=Lib.hid h
 clear h
 go_enter Tryz.func150,Tryz.ntmps150
 go_wp2_with fail
 refine HH.out.mono ?_
 rintro e w' ⟨r,rfl,h1,h2,h3⟩
 have H3:=Lib.hid h3
 clear h3
 by_cases hf:formedL n l = true
 ·obtain rfl:=h1 hf
  have HF:=Lib.hid hf
  clear h1 h2 hf
  go_wp2_with fail
  go_ret
  exact ⟨by rw [HF.out];rfl,H3.out⟩
 ·have hf:formedL n l = false:=by simpa using hf
  have h0:=h2 hf
  have HF:=Lib.hid hf
  have q:decide (0 ≤ r) = true:=decide_eq_true h0
  clear h1 h2 hf
  go_wp2_with fail
  go_ret
  exact ⟨by rw [HF.out];rfl,H3.out⟩
theorem con0:ConS 0:=by
 intro w B g z v l s hB hI hM hg hp hz hzg hs hss
 obtain ⟨p,c,rfl,_⟩:=hI
 exact contains l g s _ _ w (search0 w g z p c s hM hs l)
theorem con1 {n:Nat} (ho:OfS n):ConS (n + 1):=by
 intro w B g z v l s hB hI hM hg hp hz hzg hs hss
 exact contains l g s _ _ w (search1 ho w B g z v l s hB hI hM hg hp hz hzg hs hss)
end Go.Proofs.YtfbggmbmgohiiaaGreat.tm
