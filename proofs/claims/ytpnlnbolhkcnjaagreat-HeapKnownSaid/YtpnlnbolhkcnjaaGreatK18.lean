/- TmJ,TmK. No condition beyond theirs. -/
import Derived.Test.YtpnlnbolhkcnjaaGreatK17
import Derived.Laws.EntriesVeiled
import Derived.Deep.RegionHeld3
import Derived.Deep.CutRange
set_option linter.unusedSimpArgs false
set_option linter.unusedVariables false
set_option maxHeartbeats 1000000
set_option maxRecDepth 100000
namespace Go.Proofs.YtpnlnbolhkcnjaaGreat.tm
open Go.RowKit mem names
def fnsV:Value:=.agg #[.func (.func 256) #[] #[],.func (.func 257) #[] #[],.func (.func 258) #[] #[],.func (.func 254) #[] #[],.func (.func 259) #[] #[],.func (.func 260) #[] #[],.func (.func 254) #[] #[],.func (.func 261) #[] #[],.func (.func 262) #[] #[],.func (.func 263) #[] #[],.func (.func 264) #[] #[]]
theorem kinds (w:World):Calls Tryz.prog 227 #[] w fun e w'=>e = .returned fnsV∧Below w.heap.size w w':=by
 unfold fnsV;go_enter Tryz.func227,Tryz.ntmps227;go_wp2_with fail
 exact bodyPost_ret (v:=.agg #[.func (.func 256) #[] #[],.func (.func 257) #[] #[],.func (.func 258) #[] #[],.func (.func 254) #[] #[],.func (.func 259) #[] #[],.func (.func 260) #[] #[],.func (.func 254) #[] #[],.func (.func 261) #[] #[],.func (.func 262) #[] #[],.func (.func 263) #[] #[],.func (.func 264) #[] #[]]) (by simp [results,Tryz.results227,go_sem, *]) rfl ⟨rfl,by (repeat' (first | with_reducible exact Below.refl _ _ | with_reducible exact Nat.le_refl _ | with_reducible refine Below.setCell ?_ ?_ _ | with_reducible refine Below.alloc ?_ ?_ _ | (simp;done) | (simp;omega)))⟩
def fnum (k:Int):Nat:=if k = 0 then 256 else if k = 1 then 257 else if k = 2 then 258 else if k = 3 then 254 else if k = 4 then 259 else if k = 5 then 260 else if k = 6 then 254 else if k = 7 then 261 else if k = 8 then 262 else if k = 9 then 263 else 264
theorem last_cell {w:World} {B n:Nat} {p:Option Addr} {m c:Nat} {l:List (Tm n)} (h:ItemsAt w B n (.slice p m c) l) (h2:2 ≤ m):∃ g0 o0,p = some ⟨g0,o0,none⟩∧w.cell? ⟨g0,o0 + (m - 1) * 9,none⟩ = some (.int .i64 (lastK n l))∧g0 < B:=by
 obtain ⟨p',c',e,_,_⟩:=h.shape;simp only [Value.slice.injEq] at e;obtain ⟨rfl,rfl,rfl⟩:=e;cases n with
 | zero=>rw [Tm.nil0 l] at h2;simp at h2
 | succ n =>
  obtain ⟨g,o,c2,e,_,_,hg,hx⟩:=h.at_ (by intro e;subst e;simp at h2);simp only [Value.slice.injEq] at e;obtain ⟨u,hC,_⟩:=hx (l.length - 1) (by omega);refine ⟨g,o,e.1,?_,hg⟩;have:lastK (n + 1) l = (l[l.length - 1]'(by omega)).f.kind:=by
   change (Option.map (fun t:Tm (n + 1)=>t.f.kind) (List.getLast? l)).getD 0 = _;rw [List.getLast?_eq_getElem?,List.getElem?_eq_getElem (by omega)];rfl
  rw [this];exact hC.c0
theorem kindAll {n:Nat} (f:TF) (v:Value) (l:List (Tm n)) (w:World) (B:Nat) (hB:B ≤ w.heap.size) (hI:ItemsAt w B n v l) (h0:0 ≤ f.kind) (h1:f.kind ≤ 10):Calls Tryz.prog (fnum f.kind) #[aggV f v] w (KPost f v l.length (lastK n l) w):=by
 obtain ⟨p,c,rfl,hn,hc⟩:=hI.shape;unfold maxLen at hc;have hlast:=fun h2=>last_cell hI h2;obtain ⟨k,i,g,nm,fn,ar,by_,bt⟩:=f;dsimp only at h0 h1 ⊢;have ways:k = 0∨k = 1∨k = 2∨k = 3∨k = 4∨k = 5∨k = 6∨k = 7∨k = 8∨k = 9∨k = 10:=by omega
 rcases ways with rfl | rfl | rfl | rfl | rfl | rfl | rfl | rfl | rfl | rfl | rfl
 ·exact kind0 i g nm fn ar by_ bt p _ c _ w hn (by omega)
 ·exact kindInt i g nm fn ar by_ bt p _ c _ w hn (by omega)
 ·exact kindAtom i g nm fn ar by_ bt p _ c _ w hn (by omega)
 ·exact kindRef i g nm fn ar by_ bt p _ c _ w hn (by omega)
 ·exact kindClosure i g nm fn ar by_ bt p _ c _ w hn (by omega)
 ·exact kindExport i g nm fn ar by_ bt p _ c _ w hn (by omega)
 ·exact kindPid i g nm fn ar by_ bt p _ c _ w hn (by omega)
 ·exact kindTuple i g nm fn ar by_ bt p _ c _ w hn (by omega)
 ·exact kindNil i g nm fn ar by_ bt p _ c _ w hn (by omega)
 ·exact kindList i g nm fn ar by_ bt p _ c _ w hn (by omega) (fun h2=>by obtain ⟨g0,o0,e1,e2,e3⟩:=hlast h2;exact ⟨g0,o0,e1,e2,by omega⟩)
 ·exact kindBits i g nm fn ar by_ bt p _ c _ w
def measC (s:Int):Obj:=.cells #[.func (.func 256) #[] #[],.func (.func 257) #[] #[],.func (.func 258) #[] #[],.func (.func 254) #[] #[],.func (.func 259) #[] #[],.func (.func 260) #[] #[],.func (.func 254) #[] #[],.func (.func 261) #[] #[],.func (.func 262) #[] #[],.func (.func 263) #[] #[],.func (.func 264) #[] #[],.int .i64 s] 260
def Meas (w:World) (g:Nat) (s:Int):Prop:=w.heap[g]? = some (measC s)
theorem Meas.fn {w:World} {g:Nat} {s:Int} (h:Meas w g s) (k:Nat) (hk:k ≤ 10):w.cell? ⟨g,k,none⟩ = some (.func (.func (fnum k)) #[] #[]):=by
 unfold Meas measC at h;have ways:k = 0∨k = 1∨k = 2∨k = 3∨k = 4∨k = 5∨k = 6∨k = 7∨k = 8∨k = 9∨k = 10:=by omega
 rcases ways with rfl | rfl | rfl | rfl | rfl | rfl | rfl | rfl | rfl | rfl | rfl <;> (simp only [World.cell?,h];rfl)
theorem Meas.size {w:World} {g:Nat} {s:Int} (h:Meas w g s):w.cell? ⟨g,11,none⟩ = some (.int .i64 s):=by
 unfold Meas measC at h;simp only [World.cell?,h];rfl
theorem Meas.frozen {w:World} {g:Nat} {s:Int} (h:Meas w g s) (o:Nat):w.frozen? ⟨g,o,none⟩ = false:=by
 unfold Meas measC at h;simp only [World.frozen?,h];simp
theorem Meas.lt {w:World} {g:Nat} {s:Int} (h:Meas w g s):g < w.heap.size:=by
 rcases Nat.lt_or_ge g w.heap.size with h1 | h1
 ·exact h1
 ·unfold Meas at h;rw [Array.getElem?_eq_none h1] at h;cases h
theorem Meas.set {w:World} {g:Nat} {s:Int} (h:Meas w g s) (s':Int):Meas (w.setCell ⟨g,11,none⟩ (.int .i64 s')) g s':=by
 have hl:=h.lt;unfold Meas measC at *;unfold World.setCell;rw [Array.getElem?_modify,if_pos rfl,h];rfl
theorem Meas.block {w w':World} {g:Nat} {s:Int} (h:Meas w g s) (e:w'.heap[g]? = w.heap[g]?):Meas w' g s:=by
 unfold Meas at *;rw [e];exact h
def MPost (g:Nat) (s:Int) (b:Bool) (nodes:Nat) (whole:Int) (w:World) (e:Ending) (w':World):Prop :=
 e = .returned (.bool b)∧∃ s',Meas w' g s'∧TouchB (fun k=>k = g) w w'∧0 ≤ s'∧s' ≤ s + 300 * nodes - 1∧(b = true→s' = s + whole)
def ConS (n:Nat):Prop:=∀ (w:World) (B g z:Nat) (v:Value) (l:List (Tm n)) (s:Int),B ≤ w.heap.size→ItemsAt w B n v l→Meas w g s→B ≤ g→w.cell? ⟨z,0,none⟩ = some (.pointer (some ⟨g,0,none⟩))→z < w.heap.size→z ≠ g→0 ≤ s→s + 300 * (nodesL n l:Int) - l.length ≤ 1000000000000 →
 Calls Tryz.prog 266 #[v,.func (.func 267) #[] #[.pointer (some ⟨z,0,none⟩)]] w fun e w'=>e = .returned (.bool (!formedL n l))∧∃ s',Meas w' g s'∧TouchB (fun k=>k = g) w w'∧0 ≤ s'∧s' ≤ s + 300 * nodesL n l - l.length∧(formedL n l = true→s' = s + wholeL n l)
def OfS (n:Nat):Prop:=∀ (w:World) (B g:Nat) (v:Value) (t:Tm (n + 1)) (s:Int),B ≤ w.heap.size→ItemsAt w B n v t.items→Meas w g s→B ≤ g→0 ≤ s→s + 300 * (nodesT t:Int) - 1 ≤ 1000000000000 →
 Calls Tryz.prog 228 #[.pointer (some ⟨g,0,none⟩),aggV t.f v] w (MPost g s (formedT t) (nodesT t) (wholeT t) w)
theorem ofNo {n:Nat} (w:World) (g:Nat) (v:Value) (t:Tm (n + 1)) (s:Int) (hM:Meas w g s) (hs:0 ≤ s) (hk:¬ (0 ≤ t.f.kind∧t.f.kind ≤ 10)) (hv:∃ p m c,v = .slice p m c) :
 Calls Tryz.prog 228 #[.pointer (some ⟨g,0,none⟩),aggV t.f v] w (MPost g s (formedT t) (nodesT t) (wholeT t) w):=by
 have hno:formedT t = false:=by
  unfold formedT okT;rw [inB_f hk];rfl
 rw [hno];obtain ⟨p,m,c,rfl⟩:=hv;have hfin:∀ w',TouchB (fun k=>k = g) w w'→w'.heap[g]? = w.heap[g]?→MPost g s false (nodesT t) (wholeT t) w (.returned (.bool false)) w':=fun w' hb he=>⟨rfl,s,hM.block he,hb,hs,by have:1 ≤ nodesT t:=(by unfold nodesT;omega);omega,fun h=>by cases h⟩;have HF:=Lib.hid hfin;clear hfin;have hgl:=hM.lt;clear hM hno hs;unfold aggV;have hN1:1 ≤ nodesT t:=by unfold nodesT;omega
 generalize nodesT t = N at *;generalize wholeT t = W at *;generalize t.f = f at *;obtain ⟨k,i,gg,nm,fn,ar,by_,bt⟩:=f;dsimp only at hk ⊢
 by_cases h0:k < 0
 ·have q:decide (k < 0) = true:=decide_eq_true h0;go_enter Tryz.func228,Tryz.ntmps228;go_wp2_with fail;go_ret;exact HF.out _ (((TouchB.refl _ _).alloc _).alloc _) (by rw [Below.heap_alloc _ _ _ (by simp;omega),Below.heap_alloc _ _ _ hgl])
 ·have h1:11 ≤ k:=by omega
  have q:decide (k < 0) = false:=decide_eq_false h0;have q:decide (11 ≤ k) = true:=decide_eq_true h1;go_enter Tryz.func228,Tryz.ntmps228;go_wp2_with fail;go_ret;exact HF.out _ (((TouchB.refl _ _).alloc _).alloc _) (by rw [Below.heap_alloc _ _ _ (by simp;omega),Below.heap_alloc _ _ _ hgl])
theorem box_two {w:World} {g:Nat} {f:TF} {v:Value}:((w.alloc (.cells #[.pointer (some ⟨g,0,none⟩)] 255)).alloc (cells9 f v)).heap[w.heap.size]? = some (.cells #[.pointer (some ⟨g,0,none⟩)] 255)∧((w.alloc (.cells #[.pointer (some ⟨g,0,none⟩)] 255)).alloc (cells9 f v)).heap[w.heap.size + 1]? = some (cells9 f v):=by
 have h1:=(MapKept.heap_alloc w (.cells #[.pointer (some ⟨g,0,none⟩)] 255)).1;have h2:=(MapKept.heap_alloc (w.alloc (.cells #[.pointer (some ⟨g,0,none⟩)] 255)) (cells9 f v)).1;exact ⟨by rw [Below.heap_alloc _ _ _ (by simp)];exact h1,by simpa using h2⟩
theorem set_blk {w:World} {z o:Nat} {u:Value} {c:Array Value} {e:TypeId} {fz:Nat × Nat} (h:w.heap[z]? = some (.cells c e fz)):(w.setCell ⟨z,o,none⟩ u).heap[z]? = some (.cells (c.setIfInBounds o u) e fz):=by
 unfold World.setCell;rw [Array.getElem?_modify,if_pos rfl,h];rfl
theorem nine_sets {w:World} {z:Nat} (f:TF) (v:Value) (h:w.heap[z]? = some (cells9 zeroF nilV)):Nine (((((((((w.setCell ⟨z,0,none⟩ (.int .i64 f.kind)).setCell ⟨z,1,none⟩ (.int .i64 f.int)).setCell ⟨z,2,none⟩ (.int .i64 f.gen)).setCell ⟨z,3,none⟩ (.string f.name)).setCell ⟨z,4,none⟩ (.string f.func)).setCell ⟨z,5,none⟩ (.int .i64 f.arity)).setCell ⟨z,6,none⟩ v).setCell ⟨z,7,none⟩ (.string f.bytes)).setCell ⟨z,8,none⟩ (.int .i64 f.bits)) z f v:=by
 unfold cells9 zeroF nilV at h;dsimp only at h;have h:=set_blk (o:=0) (u:=.int .i64 f.kind) h;have h:=set_blk (o:=1) (u:=.int .i64 f.int) h;have h:=set_blk (o:=2) (u:=.int .i64 f.gen) h;have h:=set_blk (o:=3) (u:=.string f.name) h;have h:=set_blk (o:=4) (u:=.string f.func) h;have h:=set_blk (o:=5) (u:=.int .i64 f.arity) h;have h:=set_blk (o:=6) (u:=v) h;have h:=set_blk (o:=7) (u:=.string f.bytes) h;have h:=set_blk (o:=8) (u:=.int .i64 f.bits) h;refine nine_of (h.trans ?_);simp [cells9]
theorem one_blk (W0 w1:World) (hb:Below (W0.drew.alloc (cells9 zeroF nilV)).heap.size (W0.drew.alloc (cells9 zeroF nilV)) w1):w1.heap[W0.heap.size]? = some (cells9 zeroF nilV):=by
 refine ((hb.block _ (by simp)).trans ?_);exact (MapKept.heap_alloc W0.drew (cells9 zeroF nilV)).1
theorem one_box (W0 w1:World) (hb:Below (W0.drew.alloc (cells9 zeroF nilV)).heap.size (W0.drew.alloc (cells9 zeroF nilV)) w1):Nine w1 W0.heap.size zeroF nilV:=by
 refine nine_of ((hb.block _ (by simp)).trans ?_);exact (MapKept.heap_alloc W0.drew (cells9 zeroF nilV)).1
theorem okT_eq {n:Nat} (t:Tm (n + 1)) {f bf:TF} {p p3:Option Addr} {len c n3 c3:Nat} {ok:Bool} (h0:0 ≤ f.kind) (h1:f.kind ≤ 10) (hF:t.f = f) (hbf:bareF f = bf) (hbv:bareV f (.slice p len c) = .slice p3 n3 c3) (hlen:t.items.length = len) (hok:okF f len (lastK n t.items) = ok) :
 okT t = (ok && (eqB { bf with kind:=0 } zeroF && decide (n3 = 0))):=by
 unfold okT bareOK;rw [hF,hlen,hbf,hok,inB_t ⟨h0,h1⟩,Bool.true_and];congr 3;unfold bareV nilV at hbv
 split at hbv
 ·rename_i h;rw [if_pos h];simp only [Value.slice.injEq] at hbv;rw [hbv.2.1]
 ·rename_i h;rw [if_neg h];simp only [Value.slice.injEq] at hbv;rw [hbv.2.1]
theorem formedT_eq {n:Nat} (t:Tm (n + 1)) {b:Bool} (h:okT t = b):formedT t = (b && formedL n t.items):=by unfold formedT;rw [h]
theorem size_bound {f:TF} {len:Nat} {last:Int} (hok:okF f len last = true) (hN:True):1 ≤ sizeF f len∧(sizeF f len ≤ (len:Int) - 1∨sizeF f len ≤ 257)∧(f.kind = 9→2 ≤ len)∧(f.kind = 10→0 ≤ f.bits∧f.bits ≤ 16384)∧(f.kind ≠ 9→sizeF f len ≤ 257):=by
 obtain ⟨k,i,g,nm,fn,ar,by_,bt⟩:=f;unfold sizeF;unfold okF at hok;dsimp only at *
 by_cases h9:k = 9
 ·subst h9;simp at hok;refine ⟨by simp;omega,.inl (by simp),fun _=>hok.1,fun h=>by omega,fun h=>absurd rfl h⟩
 ·by_cases h10:k = 10
  ·subst h10;simp [okBits,inB] at hok;have hb:=hok.1.1;refine ⟨by simp;omega,.inr (by simp;omega),fun h=>by omega,fun _=>by omega,fun _=>by simp;omega⟩
  ·rw [if_neg h9,if_neg h10];exact ⟨by omega,.inr (by omega),fun h=>absurd h h9,fun h=>absurd h h10,fun _=>by omega⟩
end Go.Proofs.YtpnlnbolhkcnjaaGreat.tm
