/- HsE,HsF,HsG. No condition beyond theirs. -/
import Derived.Test.YtpnlnbolhkcnjaaGreatP49
import Derived.Test.YtpnlnbolhkcnjaaGreatP50
set_option linter.unusedSimpArgs false
set_option linter.unusedVariables false
set_option maxHeartbeats 4000000
set_option maxRecDepth 100000
namespace Go.Proofs.YtpnlnbolhkcnjaaGreat.hp
open Go.RowKit mem words rec tm
theorem listO_Y:∀ (ws:List Int) (σ:St),ws ≠ []→((listO ws σ).2.Y.length:Int) = σ.Y.length + 2 * ((ws.length:Int) - 1)
 | [],_,h=>absurd rfl h
 | [x],σ,_=>by simp [listO]
 | x :: y :: l,σ,_=>by
  rw [listO_cons2];show ((addO [x,(listO (y :: l) σ).1] (listO (y :: l) σ).2).Y.length:Int) = _;rw [addO_Y];have:=listO_Y (y :: l) σ (by simp);simp only [List.length_cons,List.length_nil] at this ⊢
  push_cast at this ⊢
  omega
theorem blobO_Y (s:ByteArray) (σ:St):(blobO s σ).2.Y = σ.Y:=by
 unfold blobO
 split <;> rfl
theorem kindO_Y {f:TF} {ws:List Int} {σ:St} (h9:f.kind = 9→2 ≤ ws.length) (hk:f.kind = 1∨f.kind = 2∨f.kind = 8∨f.kind = 9∨f.kind = 7∨f.kind = 4∨f.kind = 5∨f.kind = 6∨f.kind = 3∨f.kind = 10)
 (h10:f.kind = 10→0 ≤ f.bits):((kindO f ws σ).2.Y.length:Int) = σ.Y.length + needF f ws.length:=by
 rcases hk with e | e | e | e | e | e | e | e | e | e
 all_goals
  unfold kindO needF;simp only [e,Int.reduceEq,if_true,if_false,or_true,true_or,or_false,false_or]
 ·unfold intO;cases hs:smallOk f.int with
  | true=>simp
  | false =>
   simp only [Bool.false_eq_true,if_false];rw [boxO_Y];simp
 ·rw [atomO_Y];simp
 ·simp
 ·have:=h9 e;exact listO_Y ws σ (fun q=>by rw [q] at this;simp at this)
 ·rw [boxO_Y]
  push_cast
  omega
 ·rw [boxO_Y,atomO_Y];simp only [List.length_cons]
  push_cast
  omega
 ·rw [boxO_Y,atomO_Y,atomO_Y];simp
 ·rw [boxO_Y,atomO_Y];simp
 ·rw [boxO_Y,atomO_Y];simp
 ·have:=h10 e;unfold bitsO
  by_cases hb:512 < f.bits
  ·rw [if_pos hb,if_pos hb];dsimp only;rw [boxO_Y,blobO_Y];simp
  ·rw [if_neg hb,if_neg hb,boxO_Y];simp only [List.length_cons,packI,List.length_map,List.length_range]
   push_cast
   omega
theorem itemsO_Y {n:Nat} (ih:∀ (t:Tm (n + 1)) (σ:St),formedT t = true→((putO (n + 1) t σ).2.Y.length:Int) = σ.Y.length + needT (n + 1) t):∀ (l:List (Tm (n + 1))) (σ:St),formedL (n + 1) l = true→((itemsO (putO (n + 1)) l σ).2.Y.length:Int) = σ.Y.length + ndL (n + 1) l
 | [],σ,_=>by simp [itemsO,ndL]
 | t :: l,σ,hf=>by
  have hx:formedT t = true∧formedL (n + 1) l = true:=by
   unfold formedL at hf ⊢;rw [List.all_cons,Bool.and_eq_true] at hf;exact hf
  show ((itemsO (putO (n + 1)) l (putO (n + 1) t σ).2).2.Y.length:Int) = _;rw [itemsO_Y ih l _ hx.2,ih t σ hx.1,ndL_cons];omega
theorem putO_Y:∀ (n:Nat) (t:Tm (n + 1)) (σ:St),formedT t = true→((putO (n + 1) t σ).2.Y.length:Int) = σ.Y.length + needT (n + 1) t
 | n,t,σ,hf=>by
  have hf':=hf;unfold formedT at hf;rw [Bool.and_eq_true] at hf;obtain ⟨hk,h9,h10⟩:=okF_kind hf.1;have hlen:=itemsO_len (putO n) t.items σ;have hi:((itemsO (putO n) t.items σ).2.Y.length:Int) = σ.Y.length + ndL n t.items:=by
   cases n with
   | zero =>
    have e:=Tm.nil0 t.items;rw [e];simp [itemsO,ndL]
   | succ n=>exact itemsO_Y (putO_Y n) t.items σ hf.2
  show ((kindO t.f (itemsO (putO n) t.items σ).1 (itemsO (putO n) t.items σ).2).2.Y.length:Int) = _;rw [kindO_Y (fun e=>by rw [hlen];exact h9 e) hk (fun e=>(h10 e).1),hlen,hi,need_eq];omega
theorem rneed31 {n:Nat} (w:World) (B:Nat) (v:Value) (t:Tm (n + 1)) (hB:B ≤ w.heap.size) (hI:ItemsAt w B n v t.items) (hr:rngT (n + 1) t) (hs:nodesT t ≤ 100000) :
 Calls Tryz.prog 31 #[aggV t.f v] w fun e w'=>e = .returned (.int .i64 (if validT t = true then needT (n + 1) t else 0))∧Below w.heap.size w w':=by
 obtain ⟨q,c,rfl,_,_⟩:=hI.shape;have hb0:Below w.heap.size w (w.alloc (.cells (C9f t.f (.slice q t.items.length c)) 38)):=belowA (Below.refl _ w) _;have hx:=heap_alloc_new w (.cells (C9f t.f (.slice q t.items.length c)) 38);have hsz:(w.alloc (.cells (C9f t.f (.slice q t.items.length c)) 38)).heap.size = w.heap.size + 1:=World.size_alloc _ _;generalize hw0:w.alloc (.cells (C9f t.f (.slice q t.items.length c)) 38) = w0 at *;have HV:=Lib.hid (RValid w0 B _ t (Nat.le_trans hB hb0.size) (hI.below hb0 hB) (by omega))
 have HKp:Hid (∀ W,Below w0.heap.size w0 W→Box9 w.heap.size t.f.kind t.f.int t.f.gen t.f.name t.f.func t.f.arity (.slice q t.items.length c) t.f.bytes t.f.bits W∧Below w.heap.size w W):=Lib.hid (fun W hW=>⟨box9 ((hW.block _ (by omega)).trans hx),hb0.trans (hW.mono (by omega))⟩);have HNd:Hid (validT t = true→∀ W,Below w0.heap.size w0 W→Calls Tryz.prog 88 #[aggV t.f (.slice q t.items.length c)] W fun e w'=>e = .returned (.int .i64 (needT (n + 1) t))∧Below W.heap.size W w'):=Lib.hid (fun hv W hW=>by
  have hf:formedT t = true:=by
   unfold validT at hv
   rw [Bool.and_eq_true] at hv
   exact hv.1
  have hb:=hb0.trans (hW.mono (by omega))
  exact rneedAll n W B _ t (Nat.le_trans hB hb.size) (hI.below hb hB) hf hr hs)
 obtain ⟨⟨x0,x1,x2,x3,x4,x5,x6,x7,x8⟩,_⟩:=HKp.out w0 (Below.refl _ _);clear hI hr hs hb0 hx hsz hB;generalize t.items.length = len at *;generalize needT (n + 1) t = N at *;generalize t.f = f at *;obtain ⟨k,i,gg,nm,fn,ar,by_,bt⟩:=f;unfold aggV at *;dsimp only at *;unfold BPost at HV;cases hv:validT t with
 | false =>
  rw [hv] at HV;go_enter Tryz.func31,Tryz.ntmps31;go_upto_region 1 with (fail);clear hw0;go_wp2_with fail;refine HV.out.mono ?_;rintro e W2 ⟨rfl,hb⟩;have HB2:=Lib.hid (HKp.out W2 hb).2;clear hb x0 x1 x2 x3 x4 x5 x6 x7 x8;go_wp2_with fail;go_ret;exact ⟨rfl,HB2.out⟩
 | true =>
  rw [hv] at HV;have HNd:=Lib.hid (HNd.out hv);go_enter Tryz.func31,Tryz.ntmps31;go_upto_region 1 with (fail);clear hw0;go_wp2_with fail;refine HV.out.mono ?_;rintro e W2 ⟨rfl,hb⟩;clear x0 x1 x2 x3 x4 x5 x6 x7 x8;obtain ⟨⟨x0,x1,x2,x3,x4,x5,x6,x7,x8⟩,_⟩:=HKp.out W2 hb;have HC:=Lib.hid (HNd.out W2 hb);have HB:=Lib.hid hb;clear hb;go_wp2_with fail;refine HC.out.mono ?_;rintro e W3 ⟨rfl,hb3⟩;have HB3:=Lib.hid (HKp.out W3 (HB.out.trans (hb3.mono HB.out.size))).2;clear hb3 x0 x1 x2 x3 x4 x5 x6 x7 x8;go_wp2_with fail;go_ret;exact ⟨rfl,HB3.out⟩
section
variable {N:Nat} {W W':World}
structure LxW (B0 lo:Nat) (W:World) (F:Nat→Prop) (N:Nat) (v0 v:Value) (l:List (Tm N)):Prop where
 it:LentIn W B0 F N v0 v l
 ty:Typed W F
 ptr:PtrOK W F 0 v
 inr:∀ g,F g→lo ≤ g∧g < W.heap.size
 lo:B0 ≤ lo
variable {B0 lo:Nat} {F:Nat→Prop} {v0 v:Value} {l:List (Tm N)}
theorem LxW.same (h:LxW B0 lo W F N v0 v l) (h1:∀ g,F g→W'.heap[g]? = W.heap[g]?) (h2:∀ g,g < B0→W'.heap[g]? = W.heap[g]?) (hz:W.heap.size ≤ W'.heap.size):LxW B0 lo W' F N v0 v l :=
 ⟨h.it.mono h1 h2 (fun _ h=>h),h.ty.same h1,h.ptr.mono h1 (fun _ h=>h),fun g hg=>⟨(h.inr g hg).1,Nat.lt_of_lt_of_le (h.inr g hg).2 hz⟩,h.lo⟩
theorem LxW.below (h:LxW B0 lo W F N v0 v l) (hB:B0 ≤ W.heap.size) (hb:Below W.heap.size W W'):LxW B0 lo W' F N v0 v l :=
 h.same (fun g hg=>hb.block g (h.inr g hg).2) (fun g hg=>hb.block g (by omega)) hb.size
theorem LxW.touch {S:Nat→Prop} (h:LxW B0 lo W F N v0 v l) (hB:B0 ≤ W.heap.size) (ht:TouchB S W W') (h1:∀ g,S g→¬ F g) (h2:∀ g,S g→B0 ≤ g):LxW B0 lo W' F N v0 v l :=
 h.same (fun g hg=>ht.block g (h.inr g hg).2 (fun e=>h1 g e hg)) (fun g hg=>ht.block g (by omega) (fun e=>by have:=h2 g e;omega)) ht.size
def LxP (B0 lo:Nat) (f:TF) (v0:Value) (l:List (Tm N)) (w:World) (e:Ending) (w':World):Prop:=∃ F p' c',e = .returned (aggV f (.slice p' l.length c'))∧LxW B0 lo w' F N v0 (.slice p' l.length c') l∧Below w.heap.size w w'∧∀ g,F g→w.heap.size ≤ g
theorem lendX (w:World) {t:Tm (N + 1)} (hB:B0 ≤ lo) (hl:lo ≤ w.heap.size) (h0:0 < w.heap.size) (h:ItemsAt w B0 N v t.items) (hs:nodesT t ≤ 100000000):Calls Tryz.prog 32 #[aggV t.f v] w (LxP B0 lo t.f v t.items w):=by
 refine (lendAll N w B0 v t (Nat.le_trans hB hl) h hs).mono ?_;rintro e w' ⟨F,p',c',rfl,hn⟩;exact ⟨F,p',c',rfl,⟨hn.items,hn.typed,hn.ptr 0 h0,fun g hg=>⟨Nat.le_trans hl (hn.inr g hg).1,(hn.inr g hg).2⟩,hB⟩,hn.below,fun g hg=>(hn.inr g hg).1⟩
theorem LxW.at_ (h:LxW B0 lo W F N v0 v l):ItemsAt W W.heap.size N v l:=h.it.toIn.toAt (fun g hg=>(h.inr g hg).2)
theorem LxW.in_ (h:LxW B0 lo W F N v0 v l):ItemsIn W F N v l:=h.it.toIn
theorem LxW.kept {t:Tm (N + 1)} (h:LxW B0 lo W F N v0 v t.items) (hB:B0 ≤ W.heap.size):Calls Tryz.prog 33 #[aggV t.f v,aggV t.f v0] W (BPost true W):=keptAll N W B0 F v0 v t hB (fun g hg=>(h.inr g hg).2) h.it
theorem LxW.spoil {f:TF} (h:LxW B0 lo W F N v0 v l):Calls Tryz.prog 34 #[aggV f v] W fun e w'=>e = .returned (.tuple #[])∧TouchB F W w' :=
 (spoil34 h.ty (fun g hg=>(h.inr g hg).2) h.ptr).mono fun e w' hh=>⟨hh.1,hh.2.2.2⟩
end
structure PS (w:World) {n:Nat} (t:Tm (n + 1)) (u up:Value) (F:Nat→Prop) (lo o1:Nat) (B z a b:Nat) (c:Int) (σ:St) (S:Nat→Prop) (W:World):Prop where
 hq:HQ W B z a b c σ S
 lx:LxW w.heap.size lo W F n u up t.items
 dis:∀ g,F g→¬ S g
 bt:W.heap[w.heap.size]? = some (.cells (C9f t.f u) 38)
 bo:W.heap[o1]? = some (.cells (C9f t.f up) 38)
 bb:Below w.heap.size w W
 s1:w.heap.size < B
 l1:w.heap.size < lo
 f1:¬ F o1
 so:¬ S o1
 ow:w.heap.size < o1
structure PT (w:World) {n:Nat} (t:Tm (n + 1)) (u:Value) (B z a b:Nat) (c:Int) (σ:St) (S:Nat→Prop) (W:World):Prop where
 hq:HQ W B z a b c σ S
 bt:W.heap[w.heap.size]? = some (.cells (C9f t.f u) 38)
 bb:Below w.heap.size w W
section
variable {w:World} {n:Nat} {t:Tm (n + 1)} {u up:Value} {F:Nat→Prop} {lo o1:Nat} {B z a b:Nat} {c:Int} {σ:St} {S:Nat→Prop} {W W':World}
theorem PS.below (h:PS w t u up F lo o1 B z a b c σ S W) (hb:Below W.heap.size W W'):PS w t u up F lo o1 B z a b c σ S W' where
 hq:=h.hq.below hb
 lx:=h.lx.below h.bb.size hb
 dis:=h.dis
 bt:=(hb.block _ (Array.getElem?_eq_some_iff.1 h.bt).1).trans h.bt
 bo:=(hb.block _ (Array.getElem?_eq_some_iff.1 h.bo).1).trans h.bo
 bb:=h.bb.trans (hb.mono h.bb.size)
 s1:=h.s1
 l1:=h.l1
 f1:=h.f1
 so:=h.so
 ow:=h.ow
theorem PS.low (h:PS w t u up F lo o1 B z a b c σ S W):∀ k,S k→w.heap.size < k:=fun k hk=>Nat.lt_of_lt_of_le h.s1 (h.hq.low k hk)
theorem PS.put {σ':St} (h:PS w t u up F lo o1 B z a b c σ S W) (hs:StepQ B z a b c S W σ' W'):∃ S',PS w t u up F lo o1 B z a b c σ' S' W':=by
 obtain ⟨S',hq,ht,hc⟩:=hs;have lt:=fun (k:Nat) (o:Obj) (hk:W.heap[k]? = some o)=>(Array.getElem?_eq_some_iff.1 hk).1
 refine ⟨S',⟨hq,h.lx.touch h.bb.size ht (fun g hs hf=>h.dis g hf hs) (fun g hg=>Nat.le_of_lt (h.low g hg)),fun g hf hs=>h.dis g hf (hc g hs (h.lx.inr g hf).2),?_,?_,?_,h.s1,h.l1,h.f1,fun hs=>h.so (hc o1 hs (lt _ _ h.bo)),h.ow⟩⟩
 ·exact (ht.block _ (lt _ _ h.bt) (fun hs=>Nat.lt_irrefl _ (h.low _ hs))).trans h.bt
 ·exact (ht.block _ (lt _ _ h.bo) h.so).trans h.bo
 ·exact h.bb.trans (ht.below (fun q hq=>Nat.le_of_lt (h.low q hq)) h.bb.size)
theorem PS.spoil (h:PS w t u up F lo o1 B z a b c σ S W) (ht:TouchB F W W'):PT w t u B z a b c σ S W':=by
 have lt:=fun (k:Nat) (o:Obj) (hk:W.heap[k]? = some o)=>(Array.getElem?_eq_some_iff.1 hk).1
 refine ⟨h.hq.same fun k hk=>ht.block k (h.hq.lt k hk) (fun hf=>h.dis k hf hk),?_,?_⟩
 ·exact (ht.block _ (lt _ _ h.bt) (fun hf=>by have:=(h.lx.inr _ hf).1;have:=h.l1;omega)).trans h.bt
 ·exact h.bb.trans (ht.below (fun q hq=>by have:=(h.lx.inr _ hq).1;have:=h.l1;omega) h.bb.size)
theorem PT.below (h:PT w t u B z a b c σ S W) (hb:Below W.heap.size W W'):PT w t u B z a b c σ S W' :=
 ⟨h.hq.below hb,(hb.block _ (Array.getElem?_eq_some_iff.1 h.bt).1).trans h.bt,h.bb.trans (hb.mono h.bb.size)⟩
theorem PS.need (h:PS w t u up F lo o1 B z a b c σ S W) (hr:rngT (n + 1) t) (hs:nodesT t ≤ 100000):Calls Tryz.prog 21 #[.pointer (some ⟨z,0,none⟩),aggV t.f up] W fun e w'=>e = .returned (.int .i64 (if validT t = true then needT (n + 1) t else 0))∧Below W.heap.size W w' :=
 need21 _ W up t h.lx.at_ hr hs
theorem PS.in_ (h:PS w t u up F lo o1 B z a b c σ S W):ItemsIn W (fun g=>¬ S g∧g < W.heap.size) n up t.items :=
 h.lx.in_.mono (fun _ _=>rfl) (fun g hg=>⟨h.dis g hg,(h.lx.inr g hg).2⟩)
theorem PS.kept (h:PS w t u up F lo o1 B z a b c σ S W):Calls Tryz.prog 33 #[aggV t.f up,aggV t.f u] W (BPost true W):=h.lx.kept h.bb.size
theorem PS.spoilc (h:PS w t u up F lo o1 B z a b c σ S W):Calls Tryz.prog 34 #[aggV t.f up] W fun e w'=>e = .returned (.tuple #[])∧PT w t u B z a b c σ S w' :=
 h.lx.spoil.mono fun e w' hh=>⟨hh.1,h.spoil hh.2⟩
theorem usedQ (h:HQ W B z a b c σ S) (hY:σ.Y.length ≤ 1000000):Calls Tryz.prog 19 #[.pointer (some ⟨z,0,none⟩)] W fun e w'=>e = .returned (.int .i64 σ.Y.length)∧Below W.heap.size W w':=by
 obtain ⟨vY,vF,m,p,cc,m1,m2,h⟩:=h;exact used19 h.ha hY
theorem roomQ (h:HQ W B z a b c σ S) (hY:σ.Y.length ≤ 1000000) (hc1:-2000000 ≤ c) (hc2:c ≤ 2000000):Calls Tryz.prog 39 #[.pointer (some ⟨z,0,none⟩)] W fun e w'=>e = .returned (.int .i64 (c - σ.Y.length))∧Below W.heap.size W w':=by
 obtain ⟨vY,vF,m,p,cc,m1,m2,h⟩:=h;exact room39 h.ha hY hc1 hc2
theorem idsQ (h:HQ W B z a b c σ S) (hE:σ.E = []):Calls Tryz.prog 37 #[.pointer (some ⟨b,0,none⟩)] W fun e w'=>e = .returned (.slice none 0 0)∧Below W.heap.size W w':=by
 obtain ⟨vY,vF,m,p,cc,m1,m2,h⟩:=h;have hs:=h.sto;rw [hE] at hs;exact ids37 hs
theorem cap0 {t:Tm (n + 1)} (hv:validT t = true) (hs:nodesT t ≤ 3000):Cap σ0 (nodesT t) (needT (n + 1) t)∧formedT t = true∧0 ≤ needT (n + 1) t∧needT (n + 1) t ≤ 36000:=by
 have hf:formedT t = true:=by
  unfold validT at hv;rw [Bool.and_eq_true] at hv;exact hv.1
 obtain ⟨h0,h1⟩:=need_bd n t hf;exact ⟨⟨by show ((0:Nat):Int) + _ ≤ _;omega,by show 0 + _ ≤ _;omega,Int.le_refl _,by show (0:Int) + _ ≤ _;omega,Int.le_refl _,by show (0:Int) + _ ≤ _;omega,fun x hx=>by simp at hx⟩,hf,h0,by omega⟩
structure PutA (t:Tm (n + 1)) (c wv ev fv:Int) (σ':St):Prop where
 put:∀ {w:World} {u up:Value} {F:Nat→Prop} {lo o1 B z a b:Nat} {S:Nat→Prop} {W:World},PS w t u up F lo o1 B z a b c σ0 S W →
  Calls Tryz.prog 18 #[.pointer (some ⟨z,0,none⟩),aggV t.f up] W fun e w'=>e = .returned (.tuple #[.int .u64 wv,.int .i64 ev])∧∃ S',PS w t u up F lo o1 B z a b c σ' S' w'
 get:∀ {w:World} {u:Value} {B z a b:Nat} {S:Nat→Prop} {W:World},PT w t u B z a b c σ' S W →
  Calls Tryz.prog 29 #[.pointer (some ⟨z,0,none⟩),.int .u64 wv] W fun e w'=>∃ f2 u2 m2 k2,e = .returned (.tuple #[aggV f2 (.slice u2 m2 k2),.int .i64 fv])∧Below W.heap.size W w'∧(fv = 0→f2 = t.f∧ItemsAt w' w'.heap.size n (.slice u2 m2 k2) t.items)
 Y:σ'.Y.length ≤ 100000
theorem put_bad {t:Tm (n + 1)} (hr:rngT (n + 1) t) (hs:nodesT t ≤ 3000) (hc1:1 ≤ c) (hc2:c ≤ 20000) (ev:Int) (h:validT t = false∧ev = 2∨validT t = true∧c < needT (n + 1) t∧ev = 5):PutA t c 0 ev 6 σ0 where
 put:=fun {w u up F lo o1 B z a b S W} hP=>by
  have key:Calls Tryz.prog 18 #[.pointer (some ⟨z,0,none⟩),aggV t.f up] W fun e w'=>e = .returned (.tuple #[.int .u64 0,.int .i64 ev])∧Below W.heap.size W w':=by
   rcases h with ⟨hv,rfl⟩ | ⟨hv,hN,rfl⟩
   ·exact put18n hP.hq (by omega) (by omega) (Nat.zero_le _) up t hP.in_ hr (by omega) hv
   ·exact put18f hP.hq (by omega) (by omega) (Nat.zero_le _) up t hP.in_ hr (by omega) hv (by show c - ((0:Nat):Int) < _;omega)
  exact key.mono fun e w' hh=>⟨hh.1,S,hP.below hh.2⟩
 get:=fun {w u B z a b S W} hP=>(get29z hP.hq (Nat.zero_le _)).mono fun e w' hh=>⟨⟨0,0,0,e0,e0,0,e0,0⟩,none,0,0,hh.1,hh.2,fun q=>absurd q (by decide)⟩
 Y:=Nat.zero_le _
theorem put_good {t:Tm (n + 1)} (hr:rngT (n + 1) t) (hs:nodesT t ≤ 3000) (hc1:1 ≤ c) (hc2:c ≤ 20000) (hv:validT t = true) (hN:¬ c < needT (n + 1) t):PutA t c (putO (n + 1) t σ0).1 0 0 (putO (n + 1) t σ0).2 where
 put:=fun {w u up F lo o1 B z a b S W} hP=>by
  obtain ⟨hcap,hf,h0,h1⟩:=cap0 hv hs;exact (put18y hP.hq (by omega) (by omega) (Nat.zero_le _) up t hP.in_ hr (by omega) hv (by show ¬ c - ((0:Nat):Int) < _;omega) hcap).mono fun e w' hh=>⟨hh.1,hP.put hh.2⟩
 get:=fun {w u B z a b S W} hP=>by
  obtain ⟨hcap,hf,h0,h1⟩:=cap0 hv hs;obtain ⟨hcap2,hw⟩:=putO_cap n t σ0 0 0 (by omega) hf (hcap.less (by omega) (by omega));have hY:=putO_Y n t σ0 hf;have hYl:(putO (n + 1) t σ0).2.Y.length ≤ 100000:=by
   have:((putO (n + 1) t σ0).2.Y.length:Int) = 0 + needT (n + 1) t:=hY;omega
  have hRd:=putRd n t σ0 (putO (n + 1) t σ0).2 hP.hq.posO hf hr hcap (Ext.refl _);refine (get29y hP.hq hYl (by have:=hcap2.n;omega) hw (by omega) hRd (fun ha=>ao_lt hf (ao_kind hRd ha) (by show 0 ≤ _;omega))).mono ?_;rintro e w' ⟨u2,rfl,hI,hb⟩;obtain ⟨q,cp,rfl,_⟩:=itemsIn_shape hI;exact ⟨t.f,q,_,cp,rfl,hb,fun _=>⟨rfl,hI.toAt fun g hg=>hg.2⟩⟩
 Y:=by
  obtain ⟨hcap,hf,h0,h1⟩:=cap0 hv hs;have:((putO (n + 1) t σ0).2.Y.length:Int) = 0 + needT (n + 1) t:=putO_Y n t σ0 hf;omega
end
theorem great30 {n:Nat} {w:World} {t:Tm (n + 1)} {u:Value} (hI:ItemsAt w w.heap.size n u t.items):∀ W,Below w.heap.size w W→∀ g,W.heap[g]? = some (.cells (C9f t.f u) 38)→Calls Tryz.prog 30 #[.slice (some ⟨g,0,none⟩) 1 1,.int .i64 3000] W (BPost (greatS (n + 1) [t] 3000) W):=fun W hb g hg=>by
 refine Great W W.heap.size _ [t] 3000 (Nat.le_refl _) (by omega) (by omega) ⟨_,1,rfl,Nat.le_refl _,by unfold maxLen;omega,fun _=>⟨g,0,rfl,(Array.getElem?_eq_some_iff.1 hg).1,fun j hj=>?_⟩⟩;obtain rfl:j = 0:=by simp at hj;omega
 obtain ⟨c0,c1,c2,c3,c4,c5,c6,c7,c8⟩:=box9 hg;exact ⟨_,⟨c0,c1,c2,c3,c4,c5,c6,c7,c8⟩,(hI.below hb (Nat.le_refl _)).more hb.size⟩
theorem nine_bt {f:TF} {W:World} {x:Nat} {u:Value} (h:W.heap[x]? = some (.cells (C9f f u) 38)):Box9 x f.kind f.int f.gen f.name f.func f.arity u f.bytes f.bits W:=box9 h
theorem PS.mk0 {w:World} {n:Nat} {t:Tm (n + 1)} {u up:Value} {F:Nat→Prop} {B z a b:Nat} {c:Int} {σ:St} {S:Nat→Prop} {W7 W8 W9:World} (hq:HQ W7 B z a b c σ S) (bt:W7.heap[w.heap.size]? = some (.cells (C9f t.f u) 38)) (bb:Below w.heap.size w W7) (hB:w.heap.size < B)
 (hL:LxW w.heap.size W7.heap.size W8 F n u up t.items) (hb:Below W7.heap.size W7 W8) (h9:Below W8.heap.size W8 W9) (bo:W9.heap[W8.heap.size]? = some (.cells (C9f t.f up) 38)):PS w t u up F W7.heap.size W8.heap.size B z a b c σ S W9:=by
 have hbt:=(Array.getElem?_eq_some_iff.1 bt).1;have hs8:=hb.size;have b8:=bb.trans (hb.mono bb.size);exact ⟨(hq.below hb).below h9,hL.below b8.size h9,fun g hf hs=>by have:=(hL.inr g hf).1;have:=hq.lt g hs;omega,(h9.block _ (by omega)).trans ((hb.block _ hbt).trans bt),bo,b8.trans (h9.mono b8.size),hB,hbt,fun hf=>by have:=(hL.inr _ hf).2;omega,fun hs=>by have:=hq.lt _ hs;omega,by omega⟩
theorem puts_great {n:Nat} (w:World) (t:Tm (n + 1)) (u:Value) (hI:ItemsAt w w.heap.size n u t.items) (hr:rngT (n + 1) t) (c:Int) (h:greatS (n + 1) [t] 3000 = true) :
 Calls Tryz.prog 5 #[aggV t.f u,.int .i64 c] w fun e w'=>e = .returned (.bool true)∧Below w.heap.size w w':=by
 obtain ⟨p,k,rfl,_,_⟩:=hI.shape;have hG:=great30 hI;rw [h] at hG;clear h;rcases hf:t.f with ⟨f0,f1,f2,s0,s1,f3,s2,f4⟩
 rw [hf] at hG;unfold C9f at hG;unfold aggV;dsimp only at *;have hx:=heap_alloc_new w (.cells #[.int .i64 f0,.int .i64 f1,.int .i64 f2,.string s0,.string s1,.int .i64 f3,.slice p t.items.length k,.string s2,.int .i64 f4] 38);have hb0:Below w.heap.size w (w.alloc (.cells #[.int .i64 f0,.int .i64 f1,.int .i64 f2,.string s0,.string s1,.int .i64 f3,.slice p t.items.length k,.string s2,.int .i64 f4] 38)):=belowA (Below.refl _ w) _
 have hsz:(w.alloc (.cells #[.int .i64 f0,.int .i64 f1,.int .i64 f2,.string s0,.string s1,.int .i64 f3,.slice p t.items.length k,.string s2,.int .i64 f4] 38)).heap.size = w.heap.size + 1:=World.size_alloc _ _;generalize hw1:w.alloc (.cells #[.int .i64 f0,.int .i64 f1,.int .i64 f2,.string s0,.string s1,.int .i64 f3,.slice p t.items.length k,.string s2,.int .i64 f4] 38) = w1 at *;have hr1:=heap_alloc_new w1 (.cells #[.int .i64 f0,.int .i64 f1,.int .i64 f2,.string s0,.string s1,.int .i64 f3,.slice p t.items.length k,.string s2,.int .i64 f4] 38)
 have HG:=Lib.hid (hG _ (belowA hb0 (.cells #[.int .i64 f0,.int .i64 f1,.int .i64 f2,.string s0,.string s1,.int .i64 f3,.slice p t.items.length k,.string s2,.int .i64 f4] 38)) _ hr1);rw [hsz] at HG;have HB0:=Lib.hid hb0;have HX0:=Lib.hid hx;have HX:=Lib.hid (fun W (hb:Below w1.heap.size w1 W)=>box9 ((hb.block w.heap.size (by omega)).trans hx));have HAw:=Lib.hid (fun W=>awake11 W);obtain ⟨x0,x1,x2,x3,x4,x5,x6,x7,x8⟩:=HX.out w1 (Below.refl _ _);have HS:=Lib.hid hsz;clear hr hI hx hb0 hsz hG hr1;go_enter Tryz.func5,Tryz.ntmps5;go_upto_region 1 with (fail);rw [← HS.out] at HG;go_wp2_with fail
 refine HG.out.mono ?_;rintro e W0 ⟨rfl,hb⟩;have hbd:Below w1.heap.size w1 W0:=(belowA (Below.refl _ w1) _).trans (hb.mono (belowA (Below.refl _ w1) _).size);clear hb HG x0 x1 x2 x3 x4 x5 x6 x7 x8;go_wp2_with fail;refine (HAw.out _).mono ?_;rintro e V11 ⟨rfl,hb⟩;replace hbd:=hbd.trans (hb.mono hbd.size);clear hb;go_wp2_with fail;go_ret;exact ⟨rfl,HB0.out.trans (hbd.mono HB0.out.size)⟩
theorem puts_far {n:Nat} (w:World) (t:Tm (n + 1)) (u:Value) (hI:ItemsAt w w.heap.size n u t.items) (hr:rngT (n + 1) t) (c:Int) (h:greatS (n + 1) [t] 3000 = false) (hc:20000 < c) :
 Calls Tryz.prog 5 #[aggV t.f u,.int .i64 c] w fun e w'=>e = .returned (.bool true)∧Below w.heap.size w w':=by
 obtain ⟨p,k,rfl,_,_⟩:=hI.shape;have hG:=great30 hI;rw [h] at hG;clear h;have q0:decide (20000 < c) = true:=decide_eq_true hc;clear hc;rcases hf:t.f with ⟨f0,f1,f2,s0,s1,f3,s2,f4⟩
 rw [hf] at hG;unfold C9f at hG;unfold aggV;dsimp only at *;have hx:=heap_alloc_new w (.cells #[.int .i64 f0,.int .i64 f1,.int .i64 f2,.string s0,.string s1,.int .i64 f3,.slice p t.items.length k,.string s2,.int .i64 f4] 38);have hb0:Below w.heap.size w (w.alloc (.cells #[.int .i64 f0,.int .i64 f1,.int .i64 f2,.string s0,.string s1,.int .i64 f3,.slice p t.items.length k,.string s2,.int .i64 f4] 38)):=belowA (Below.refl _ w) _
 have hsz:(w.alloc (.cells #[.int .i64 f0,.int .i64 f1,.int .i64 f2,.string s0,.string s1,.int .i64 f3,.slice p t.items.length k,.string s2,.int .i64 f4] 38)).heap.size = w.heap.size + 1:=World.size_alloc _ _;generalize hw1:w.alloc (.cells #[.int .i64 f0,.int .i64 f1,.int .i64 f2,.string s0,.string s1,.int .i64 f3,.slice p t.items.length k,.string s2,.int .i64 f4] 38) = w1 at *;have hr1:=heap_alloc_new w1 (.cells #[.int .i64 f0,.int .i64 f1,.int .i64 f2,.string s0,.string s1,.int .i64 f3,.slice p t.items.length k,.string s2,.int .i64 f4] 38)
 have HG:=Lib.hid (hG _ (belowA hb0 (.cells #[.int .i64 f0,.int .i64 f1,.int .i64 f2,.string s0,.string s1,.int .i64 f3,.slice p t.items.length k,.string s2,.int .i64 f4] 38)) _ hr1);rw [hsz] at HG;have HB0:=Lib.hid hb0;have HX0:=Lib.hid hx;have HX:=Lib.hid (fun W (hb:Below w1.heap.size w1 W)=>box9 ((hb.block w.heap.size (by omega)).trans hx));have HAw:=Lib.hid (fun W=>awake11 W);obtain ⟨x0,x1,x2,x3,x4,x5,x6,x7,x8⟩:=HX.out w1 (Below.refl _ _);have HS:=Lib.hid hsz;clear hr hI hx hb0 hsz hG hr1;go_enter Tryz.func5,Tryz.ntmps5;go_upto_region 1 with (fail);rw [← HS.out] at HG;go_wp2_with fail
 refine HG.out.mono ?_;rintro e W0 ⟨rfl,hb⟩;have hbd:Below w1.heap.size w1 W0:=(belowA (Below.refl _ w1) _).trans (hb.mono (belowA (Below.refl _ w1) _).size);clear hb HG x0 x1 x2 x3 x4 x5 x6 x7 x8;go_wp2_with fail;refine (HAw.out _).mono ?_;rintro e V11 ⟨rfl,hb⟩;replace hbd:=hbd.trans (hb.mono hbd.size);clear hb;go_wp2_with fail;go_ret;exact ⟨rfl,HB0.out.trans (hbd.mono HB0.out.size)⟩
theorem puts_low {n:Nat} (w:World) (t:Tm (n + 1)) (u:Value) (hI:ItemsAt w w.heap.size n u t.items) (hr:rngT (n + 1) t) (c:Int) (h:greatS (n + 1) [t] 3000 = false) (hc:c < 1) :
 Calls Tryz.prog 5 #[aggV t.f u,.int .i64 c] w fun e w'=>e = .returned (.bool true)∧Below w.heap.size w w':=by
 obtain ⟨p,k,rfl,_,_⟩:=hI.shape;have hG:=great30 hI;rw [h] at hG;clear h;have q0:decide (20000 < c) = false:=decide_eq_false (by omega);have q1:decide (c < 1) = true:=decide_eq_true hc;rcases hf:t.f with ⟨f0,f1,f2,s0,s1,f3,s2,f4⟩
 rw [hf] at hG;unfold C9f at hG;unfold aggV;dsimp only at *;have hx:=heap_alloc_new w (.cells #[.int .i64 f0,.int .i64 f1,.int .i64 f2,.string s0,.string s1,.int .i64 f3,.slice p t.items.length k,.string s2,.int .i64 f4] 38);have hb0:Below w.heap.size w (w.alloc (.cells #[.int .i64 f0,.int .i64 f1,.int .i64 f2,.string s0,.string s1,.int .i64 f3,.slice p t.items.length k,.string s2,.int .i64 f4] 38)):=belowA (Below.refl _ w) _
 have hsz:(w.alloc (.cells #[.int .i64 f0,.int .i64 f1,.int .i64 f2,.string s0,.string s1,.int .i64 f3,.slice p t.items.length k,.string s2,.int .i64 f4] 38)).heap.size = w.heap.size + 1:=World.size_alloc _ _;generalize hw1:w.alloc (.cells #[.int .i64 f0,.int .i64 f1,.int .i64 f2,.string s0,.string s1,.int .i64 f3,.slice p t.items.length k,.string s2,.int .i64 f4] 38) = w1 at *;have hr1:=heap_alloc_new w1 (.cells #[.int .i64 f0,.int .i64 f1,.int .i64 f2,.string s0,.string s1,.int .i64 f3,.slice p t.items.length k,.string s2,.int .i64 f4] 38)
 have HG:=Lib.hid (hG _ (belowA hb0 (.cells #[.int .i64 f0,.int .i64 f1,.int .i64 f2,.string s0,.string s1,.int .i64 f3,.slice p t.items.length k,.string s2,.int .i64 f4] 38)) _ hr1);rw [hsz] at HG;have HB0:=Lib.hid hb0;have HX0:=Lib.hid hx;have HX:=Lib.hid (fun W (hb:Below w1.heap.size w1 W)=>box9 ((hb.block w.heap.size (by omega)).trans hx));have H14:=Lib.hid (fun W=>names14 W);have H15:=Lib.hid (fun W=>blobs15 W);have H17:=Lib.hid (fun W p q=>new17 W p q c (.inr (.inr (.inl hc))));clear hc;have HAw:=Lib.hid (fun W=>awake11 W);obtain ⟨x0,x1,x2,x3,x4,x5,x6,x7,x8⟩:=HX.out w1 (Below.refl _ _)
 have HS:=Lib.hid hsz;clear hr hI hx hb0 hsz hG hr1;go_enter Tryz.func5,Tryz.ntmps5;go_upto_region 1 with (fail);rw [← HS.out] at HG;go_wp2_with fail;refine HG.out.mono ?_;rintro e W0 ⟨rfl,hb⟩;have hbd:Below w1.heap.size w1 W0:=(belowA (Below.refl _ w1) _).trans (hb.mono (belowA (Below.refl _ w1) _).size);clear hb HG x0 x1 x2 x3 x4 x5 x6 x7 x8;go_wp2_with fail;refine (H14.out _).mono ?_;rintro e W1 ⟨a,rfl,hb⟩;replace hbd:=hbd.trans (hb.mono hbd.size);clear hb;go_wp2_with fail;refine (H15.out _).mono ?_;rintro e W2 ⟨b,rfl,hb⟩;replace hbd:=hbd.trans (hb.mono hbd.size);clear hb;go_wp2_with fail
 refine (H17.out _ _ _).mono ?_;rintro e W3 ⟨rfl,hb⟩;replace hbd:=hbd.trans (hb.mono hbd.size);clear hb;go_wp2_with fail;refine (HAw.out _).mono ?_;rintro e V11 ⟨rfl,hb⟩;replace hbd:=hbd.trans (hb.mono hbd.size);clear hb;go_wp2_with fail;go_ret;exact ⟨rfl,HB0.out.trans (hbd.mono HB0.out.size)⟩
theorem puts_main {n:Nat} (w:World) (t:Tm (n + 1)) (u:Value) (hI:ItemsAt w w.heap.size n u t.items) (hr:rngT (n + 1) t) (c:Int) (h:greatS (n + 1) [t] 3000 = false) (h1:1 ≤ c) (h2:c ≤ 20000) (wv ev fv:Int) (σ':St) (hA:PutA t c wv ev fv σ') (hcase:validT t = false∧wv = 0∧ev = 2∧σ' = σ0∨validT t = true∧c < needT (n + 1) t∧wv = 0∧ev = 5∧σ' = σ0∨validT t = true∧¬ c < needT (n + 1) t∧ev = 0∧fv = 0∧(σ'.Y.length:Int) = needT (n + 1) t) :
 Calls Tryz.prog 5 #[aggV t.f u,.int .i64 c] w fun e w'=>e = .returned (.bool true)∧Below w.heap.size w w':=by
 obtain ⟨p,k,rfl,_,_⟩:=hI.shape;have hG:=great30 hI;have hs:nodesT t ≤ 3000:=by
  have hn:=great_nodes h;rw [nodesL_cons] at hn;omega
 rw [h] at hG;clear h;have q0:decide (20000 < c) = false:=decide_eq_false (by omega);have q1:decide (c < 1) = false:=decide_eq_false (by omega);rcases hf:t.f with ⟨f0,f1,f2,s0,s1,f3,s2,f4⟩
 rw [hf] at hG;unfold C9f at hG;unfold aggV;dsimp only at *;have hx:=heap_alloc_new w (.cells #[.int .i64 f0,.int .i64 f1,.int .i64 f2,.string s0,.string s1,.int .i64 f3,.slice p t.items.length k,.string s2,.int .i64 f4] 38);have hb0:Below w.heap.size w (w.alloc (.cells #[.int .i64 f0,.int .i64 f1,.int .i64 f2,.string s0,.string s1,.int .i64 f3,.slice p t.items.length k,.string s2,.int .i64 f4] 38)):=belowA (Below.refl _ w) _
 have hsz:(w.alloc (.cells #[.int .i64 f0,.int .i64 f1,.int .i64 f2,.string s0,.string s1,.int .i64 f3,.slice p t.items.length k,.string s2,.int .i64 f4] 38)).heap.size = w.heap.size + 1:=World.size_alloc _ _;generalize hw1:w.alloc (.cells #[.int .i64 f0,.int .i64 f1,.int .i64 f2,.string s0,.string s1,.int .i64 f3,.slice p t.items.length k,.string s2,.int .i64 f4] 38) = w1 at *;have hr1:=heap_alloc_new w1 (.cells #[.int .i64 f0,.int .i64 f1,.int .i64 f2,.string s0,.string s1,.int .i64 f3,.slice p t.items.length k,.string s2,.int .i64 f4] 38)
 have HG:=Lib.hid (hG _ (belowA hb0 (.cells #[.int .i64 f0,.int .i64 f1,.int .i64 f2,.string s0,.string s1,.int .i64 f3,.slice p t.items.length k,.string s2,.int .i64 f4] 38)) _ hr1);rw [hsz] at HG;have HB0:=Lib.hid hb0;have HX0:=Lib.hid hx;have HX:=Lib.hid (fun W (hb:Below w1.heap.size w1 W)=>box9 ((hb.block w.heap.size (by omega)).trans hx));have H14:=Lib.hid (fun W=>namN W);have H15:=Lib.hid (fun W=>bloN W);have H17:=Lib.hid (fun W a b=>heap17 W a b c h1 (by omega));have HIh:=Lib.hid hI;have HR:=Lib.hid hr;have HN:=Lib.hid hs;have HPA:=Lib.hid hA;have HCs:=Lib.hid hcase
 have HCr:=Lib.hid (And.intro h1 h2);have HFq:=Lib.hid hf;clear hI hr hs hA hcase h1 h2 hf;have HAw:=Lib.hid (fun W=>awake11 W);obtain ⟨x0,x1,x2,x3,x4,x5,x6,x7,x8⟩:=HX.out w1 (Below.refl _ _);have HS:=Lib.hid hsz;clear hx hb0 hsz hG hr1;go_enter Tryz.func5,Tryz.ntmps5;go_upto_region 1 with (fail);rw [← HS.out] at HG;go_wp2_with fail;refine HG.out.mono ?_;rintro e W0 ⟨rfl,hb⟩;have hbd:Below w1.heap.size w1 W0:=(belowA (Below.refl _ w1) _).trans (hb.mono (belowA (Below.refl _ w1) _).size);clear hb HG x0 x1 x2 x3 x4 x5 x6 x7 x8;go_wp2_with fail;have HW0:=Lib.hid hbd;clear hbd;unfold NamP at H14
 unfold BloP at H15;unfold NewP at H17;refine (H14.out _).mono ?_;rintro e W1 ⟨a,m,rfl,hT,ha,hm,hb⟩;have HT:=Lib.hid hT;have Ha:=Lib.hid ha;have Hm:=Lib.hid hm;have HB1:=Lib.hid hb;clear hT ha hm hb;go_wp2_with fail;refine (H15.out _).mono ?_;rintro e W2 ⟨b,m1,m2,rfl,hSt,hb,hm1,hm2,hb2⟩;have HSt:=Lib.hid hSt;have Hbb:=Lib.hid (And.intro hb (And.intro hm1 hm2));have HB2:=Lib.hid hb2;clear hSt hb hm1 hm2 hb2;go_wp2_with fail;refine (H17.out _ _ _).mono ?_;rintro e W3 ⟨z,rfl,hb3,hA3⟩;obtain ⟨S,hQ,hSl⟩:=startQ HT.out Ha.out Hm.out HB2.out HSt.out Hbb.out.1 Hbb.out.2.1 Hbb.out.2.2 hb3 hA3
 have HQ3:=Lib.hid hQ;have h03:Below w1.heap.size w1 W3:=by
  have a1:=HW0.out.trans (HB1.out.mono HW0.out.size);have a2:=a1.trans (HB2.out.mono a1.size);exact a2.trans (hb3.mono a2.size)
 have HB3:=Lib.hid h03;have hbd:=h03;clear hb3 hA3 hQ hSl h03 HT Ha Hm HB1 HSt Hbb HB2 H14 H15 H17;go_upto_region 7 with (fail);obtain ⟨x0,x1,x2,x3,x4,x5,x6,x7,x8⟩:=HX.out _ hbd;clear hbd;have HRN:=Lib.hid (rneed31 W3 w.heap.size _ t (Nat.le_trans HB0.out.size HB3.out.size) (HIh.out.below (HB0.out.trans (HB3.out.mono HB0.out.size)) (Nat.le_refl _)) HR.out (by have:=HN.out;omega));rw [HFq.out] at HRN;unfold aggV at HRN;dsimp only at HRN;generalize hnd:(if validT t = true then needT (n + 1) t else 0) = nd at *;have HNd:=Lib.hid hnd;clear hnd;go_wp2_with fail;refine HRN.out.mono ?_
 rintro e W7 ⟨rfl,hb⟩;have hB7:=HB3.out.trans (hb.mono HB3.out.size);have HQ7:=Lib.hid (HQ3.out.below hb);have HB7:=Lib.hid hB7;have HBw7:=Lib.hid (HB0.out.trans (hB7.mono HB0.out.size));clear hb hB7 HQ3 HB3 HRN x0 x1 x2 x3 x4 x5 x6 x7 x8;obtain ⟨x0,x1,x2,x3,x4,x5,x6,x7,x8⟩:=HX.out _ HB7.out;have HL:=Lib.hid (lendX (B0:=w.heap.size) (lo:=W7.heap.size) W7 (t:=t) HBw7.out.size (Nat.le_refl _) (by have:=HB7.out.size;have:=HS.out;omega) (HIh.out.below HBw7.out (Nat.le_refl _)) (by have:=HN.out;omega));unfold LxP at HL;rw [HFq.out] at HL;unfold aggV at HL;dsimp only at HL;go_wp2_with fail
 refine HL.out.mono ?_;rintro e W8 ⟨F,q,cp,rfl,hL,hb8,hF⟩;have HLx:=Lib.hid hL;have HB8:=Lib.hid hb8;clear hL hb8 hF HL x0 x1 x2 x3 x4 x5 x6 x7 x8;go_upto_region 9 with (refine wpList_store_row rfl 38 (.tmp 9) (.tmp 38) rfl W8.heap.size (C9f ⟨f0,f1,f2,s0,s1,f3,s2,f4⟩ (.slice q t.items.length cp)) rfl rfl 38 zC (heap_alloc_new W8 _) i38 rfl (nine1 _ rfl) ?_)
 have hst:=setRow_heap (W8.alloc (.cells zC 38)) W8.heap.size zC (C9f ⟨f0,f1,f2,s0,s1,f3,s2,f4⟩ (.slice q t.items.length cp)) 38 (0,0) (heap_alloc_new W8 _);have hb9:Below W8.heap.size W8 ((W8.alloc (.cells zC 38)).setRow W8.heap.size (C9f ⟨f0,f1,f2,s0,s1,f3,s2,f4⟩ (.slice q t.items.length cp))):=below_setRow (belowA (Below.refl _ W8) _) (Nat.le_refl _) _;generalize hw9:(W8.alloc (.cells zC 38)).setRow W8.heap.size (C9f ⟨f0,f1,f2,s0,s1,f3,s2,f4⟩ (.slice q t.items.length cp)) = W9 at *
 have HP9:Hid (PS w t (.slice p t.items.length k) (.slice q t.items.length cp) F W7.heap.size W8.heap.size W0.heap.size z a b c σ0 S W9):=Lib.hid (PS.mk0 HQ7.out ((HB7.out.block _ (by have:=HS.out;omega)).trans (by rw [HFq.out];exact HX0.out)) HBw7.out (by have:=HW0.out.size;have:=HS.out;omega) HLx.out HB8.out hb9 (by rw [HFq.out];exact hst));clear hst hb9 hw9 HQ7 HB7 HBw7 HLx HB8;have ho9:=nine_bt HP9.out.bo;rw [HFq.out] at ho9;dsimp only at ho9;obtain ⟨y0,y1,y2,y3,y4,y5,y6,y7,y8⟩:=ho9;have HND:=Lib.hid (HP9.out.need HR.out (by have:=HN.out;omega));rw [HFq.out,HNd.out] at HND
 unfold aggV at HND;dsimp only at HND;have qnd:(nd != nd) = false:=by simp
 go_wp2_with fail;refine HND.out.mono ?_;rintro e W10 ⟨rfl,hb⟩;have HP10:=Lib.hid (HP9.out.below hb);clear hb HND HP9 y0 y1 y2 y3 y4 y5 y6 y7 y8;have ho10:=nine_bt HP10.out.bo;rw [HFq.out] at ho10;dsimp only at ho10;obtain ⟨y0,y1,y2,y3,y4,y5,y6,y7,y8⟩:=ho10;have HPT:=Lib.hid (HPA.out.put HP10.out);rw [HFq.out] at HPT;unfold aggV at HPT;dsimp only at HPT;go_wp2_with fail;refine HPT.out.mono ?_;rintro e W11 ⟨rfl,S',hP⟩;have HP11:=Lib.hid hP;clear hP HP10 HPT y0 y1 y2 y3 y4 y5 y6 y7 y8;have ho11:=nine_bt HP11.out.bo;rw [HFq.out] at ho11;dsimp only at ho11;obtain ⟨y0,y1,y2,y3,y4,y5,y6,y7,y8⟩:=ho11
 have ht11:=nine_bt HP11.out.bt;rw [HFq.out] at ht11;dsimp only at ht11;obtain ⟨x0,x1,x2,x3,x4,x5,x6,x7,x8⟩:=ht11;have HKe:=Lib.hid HP11.out.kept;unfold BPost at HKe;rw [HFq.out] at HKe;unfold aggV at HKe;dsimp only at HKe;go_wp2_with fail;refine HKe.out.mono ?_;rintro e W12 ⟨rfl,hb⟩;have HP12:=Lib.hid (HP11.out.below hb);clear hb HP11 HKe x0 x1 x2 x3 x4 x5 x6 x7 x8 y0 y1 y2 y3 y4 y5 y6 y7 y8;have ho12:=nine_bt HP12.out.bo;rw [HFq.out] at ho12;dsimp only at ho12;obtain ⟨y0,y1,y2,y3,y4,y5,y6,y7,y8⟩:=ho12;have HSp:=Lib.hid HP12.out.spoilc;rw [HFq.out] at HSp;unfold aggV at HSp;dsimp only at HSp
 go_wp2_with fail;refine HSp.out.mono ?_;rintro e W14 ⟨rfl,hP⟩;have HP14:=Lib.hid hP;clear hP HP12 HSp y0 y1 y2 y3 y4 y5 y6 y7 y8;have HGe:=Lib.hid (HPA.out.get HP14.out);unfold aggV at HGe;go_wp2_with fail;refine HGe.out.mono ?_;rintro e W15 ⟨⟨g0,g1,g2,gs,gt,g3,gu,g4⟩,q2,m2',k2,rfl,hb,hI2⟩;have HP15:=Lib.hid (HP14.out.below hb);have HI2:=Lib.hid hI2;clear hb hI2 HP14 HGe;dsimp only;go_upto_region 16 with (refine wpList_store_row rfl 38 (.tmp 12) (.tmp 60) rfl W15.heap.size (C9f ⟨g0,g1,g2,gs,gt,g3,gu,g4⟩ (.slice q2 m2' k2)) rfl rfl 38 zC (heap_alloc_new W15 _) i38 rfl (nine1 _ rfl) ?_)
 have hst:=setRow_heap (W15.alloc (.cells zC 38)) W15.heap.size zC (C9f ⟨g0,g1,g2,gs,gt,g3,gu,g4⟩ (.slice q2 m2' k2)) 38 (0,0) (heap_alloc_new W15 _);have hb16:Below W15.heap.size W15 ((W15.alloc (.cells zC 38)).setRow W15.heap.size (C9f ⟨g0,g1,g2,gs,gt,g3,gu,g4⟩ (.slice q2 m2' k2))):=below_setRow (belowA (Below.refl _ W15) _) (Nat.le_refl _) _;generalize hw16:(W15.alloc (.cells zC 38)).setRow W15.heap.size (C9f ⟨g0,g1,g2,gs,gt,g3,gu,g4⟩ (.slice q2 m2' k2)) = W16 at *;have HP16:=Lib.hid (HP15.out.below hb16);have HB16:=Lib.hid hb16;have HZ:=Lib.hid hst
 have HV:=Lib.hid (RValid W16 w.heap.size _ t HP16.out.bb.size (HIh.out.below HP16.out.bb (Nat.le_refl _)) (by have:=HN.out;omega));rw [HFq.out] at HV;unfold aggV BPost at HV;dsimp only at HV;have ht16:=nine_bt HP16.out.bt;rw [HFq.out] at ht16;dsimp only at ht16;obtain ⟨x0,x1,x2,x3,x4,x5,x6,x7,x8⟩:=ht16;clear hst hb16 hw16 HP15
 rcases HCs.out with ⟨hv,rfl,rfl,rfl⟩ | ⟨hv,hlt,rfl,rfl,rfl⟩ | ⟨hv,hlt,rfl,rfl,hY⟩
 ·rw [hv] at HV;clear hv;go_wp2_with fail;refine HV.out.mono ?_;rintro e W17 ⟨rfl,hb⟩;have HP17:=Lib.hid (HP16.out.below hb);clear hb HP16 HV x0 x1 x2 x3 x4 x5 x6 x7 x8;have HU:Hid (Calls Tryz.prog 19 #[.pointer (some ⟨z,0,none⟩)] W17 fun e w'=>e = .returned (.int .i64 0)∧Below W17.heap.size W17 w'):=Lib.hid (usedQ HP17.out.hq (Nat.zero_le _));go_wp2_with fail;refine HU.out.mono ?_;rintro e W18 ⟨rfl,hb⟩;have HP18:=Lib.hid (HP17.out.below hb);clear hb HP17 HU
  have HLn:Hid (Calls Tryz.prog 36 #[.pointer (some ⟨a,0,none⟩)] W18 fun e w'=>e = .returned (.int .i64 0)∧W18 = w'):=Lib.hid (lenQ HP18.out.hq);go_wp2_with fail;refine HLn.out.mono ?_;rintro e W19 ⟨rfl,rfl⟩;clear HLn;go_wp2_with fail;refine (HAw.out _).mono ?_;rintro e W20 ⟨rfl,hb⟩;have HF:=Lib.hid (HP18.out.below hb).bb;clear hb HP18;go_wp2_with fail;go_ret;exact ⟨rfl,HF.out⟩
 ·rw [hv] at HV;have hnd2:nd = needT (n + 1) t:=by rw [← HNd.out,if_pos hv]
  have qg:decide (c < nd) = true:=decide_eq_true (by rw [hnd2];exact hlt);clear hv hlt hnd2;go_wp2_with fail;refine HV.out.mono ?_;rintro e W17 ⟨rfl,hb⟩;have HP17:=Lib.hid (HP16.out.below hb);clear hb HP16 HV x0 x1 x2 x3 x4 x5 x6 x7 x8;have HU:Hid (Calls Tryz.prog 19 #[.pointer (some ⟨z,0,none⟩)] W17 fun e w'=>e = .returned (.int .i64 0)∧Below W17.heap.size W17 w'):=Lib.hid (usedQ HP17.out.hq (Nat.zero_le _));go_wp2_with fail;refine HU.out.mono ?_;rintro e W18 ⟨rfl,hb⟩;have HP18:=Lib.hid (HP17.out.below hb);clear hb HP17 HU
  have HLn:Hid (Calls Tryz.prog 36 #[.pointer (some ⟨a,0,none⟩)] W18 fun e w'=>e = .returned (.int .i64 0)∧W18 = w'):=Lib.hid (lenQ HP18.out.hq);go_wp2_with fail;refine HLn.out.mono ?_;rintro e W19 ⟨rfl,rfl⟩;clear HLn;have HID:=Lib.hid (idsQ HP18.out.hq rfl);go_wp2_with fail;refine HID.out.mono ?_;rintro e W19 ⟨rfl,hb⟩;have HP19:=Lib.hid (HP18.out.below hb);clear hb HP18 HID;go_wp2_with fail;refine (HAw.out _).mono ?_;rintro e W20 ⟨rfl,hb⟩;have HF:=Lib.hid (HP19.out.below hb).bb;clear hb HP19;go_wp2_with fail;go_ret;exact ⟨rfl,HF.out⟩
 ·rw [hv] at HV;have hnd2:nd = needT (n + 1) t:=by rw [← HNd.out,if_pos hv]
  obtain ⟨_,_,hn0,_⟩:=cap0 hv HN.out;have qg:decide (c < nd) = false:=decide_eq_false (by rw [hnd2];omega);have hwr:IntKind.i64.wrap (c - nd) = c - nd:=IntWalk.i64_in _ (by have:=HCr.out;omega);have HY:Hid ((σ'.Y.length:Int) = nd):=Lib.hid (by rw [hnd2];exact hY);obtain ⟨hg,hI2⟩:=HI2.out rfl;have HI:=Lib.hid hI2;have HGe:Hid ((⟨g0,g1,g2,gs,gt,g3,gu,g4⟩:TF) = ⟨f0,f1,f2,s0,s1,f3,s2,f4⟩):=Lib.hid (hg.trans HFq.out);obtain ⟨rfl,rfl,rfl,rfl,rfl,rfl,rfl,rfl⟩:g0 = f0∧g1 = f1∧g2 = f2∧gs = s0∧gt = s1∧g3 = f3∧gu = s2∧g4 = f4:=by
   have:=HGe.out;simpa only [TF.mk.injEq] using this
  clear hv hlt hnd2 hg hI2 hn0 hY HGe HI2;go_wp2_with fail;refine HV.out.mono ?_;rintro e W17 ⟨rfl,hb⟩;have HP17:=Lib.hid (HP16.out.below hb);have hz17:=(hb.block _ (Array.getElem?_eq_some_iff.1 HZ.out).1).trans HZ.out;have hI17:=(HI.out.below HB16.out (Nat.le_refl _)).more HB16.out.size;have HI17:=Lib.hid ((hI17.below hb (Nat.le_refl _)).more hb.size);clear hb HP16 HV hI17 x0 x1 x2 x3 x4 x5 x6 x7 x8;have ht17:=nine_bt HP17.out.bt;rw [HFq.out] at ht17;dsimp only at ht17;obtain ⟨x0,x1,x2,x3,x4,x5,x6,x7,x8⟩:=ht17;obtain ⟨y0,y1,y2,y3,y4,y5,y6,y7,y8⟩:=nine_bt hz17;clear hz17
  have HSm:Hid (Calls Tryz.prog 38 #[aggV t.f (.slice p t.items.length k),aggV t.f (.slice q2 m2' k2)] W17 fun e w'=>e = .returned (.bool true)∧Below W17.heap.size W17 w'):=Lib.hid (by
   have:=sameOne W17 W17.heap.size _ _ t t (Nat.le_refl _) ((HIh.out.below HP17.out.bb (Nat.le_refl _)).more HP17.out.bb.size) HI17.out
   rw [eqB_t rfl] at this
   exact this)
  rw [HFq.out] at HSm;unfold aggV at HSm;dsimp only at HSm ⊢;go_wp2_with fail;refine HSm.out.mono ?_;rintro e W18 ⟨rfl,hb⟩;have HP18:=Lib.hid (HP17.out.below hb);clear hb HP17 HSm HI17 x0 x1 x2 x3 x4 x5 x6 x7 x8 y0 y1 y2 y3 y4 y5 y6 y7 y8;have HU:Hid (Calls Tryz.prog 19 #[.pointer (some ⟨z,0,none⟩)] W18 fun e w'=>e = .returned (.int .i64 nd)∧Below W18.heap.size W18 w'):=Lib.hid (HY.out ▸ usedQ HP18.out.hq (by have:=HPA.out.Y;omega));go_wp2_with fail;refine HU.out.mono ?_;rintro e W19 ⟨rfl,hb⟩;have HP19:=Lib.hid (HP18.out.below hb);clear hb HP18 HU
  have HRm:Hid (Calls Tryz.prog 39 #[.pointer (some ⟨z,0,none⟩)] W19 fun e w'=>e = .returned (.int .i64 (c - nd))∧Below W19.heap.size W19 w'):=Lib.hid (HY.out ▸ roomQ HP19.out.hq (by have:=HPA.out.Y;omega) (by have:=HCr.out;omega) (by have:=HCr.out;omega));go_wp2_with fail;refine HRm.out.mono ?_;rintro e W20 ⟨rfl,hb⟩;have HP20:=Lib.hid (HP19.out.below hb);clear hb HP19 HRm;go_wp2_with fail;refine (HAw.out _).mono ?_;rintro e W21 ⟨rfl,hb⟩;have HF:=Lib.hid (HP20.out.below hb).bb;clear hb HP20;go_wp2_with fail;go_ret;exact ⟨rfl,HF.out⟩
theorem lawPuts {n:Nat} (w:World) (t:Tm (n + 1)) (u:Value) (hI:ItemsAt w w.heap.size n u t.items) (hr:rngT (n + 1) t) (c:Int) :
 Calls Tryz.prog 5 #[aggV t.f u,.int .i64 c] w fun e w'=>e = .returned (.bool true)∧Below w.heap.size w w':=by
 cases hg:greatS (n + 1) [t] 3000 with
 | true=>exact puts_great w t u hI hr c hg
 | false =>
  by_cases h1:20000 < c
  ·exact puts_far w t u hI hr c hg h1
  by_cases h2:c < 1
  ·exact puts_low w t u hI hr c hg h2
  have hs:nodesT t ≤ 3000:=by
   have hn:=great_nodes hg;rw [nodesL_cons] at hn;omega
  cases hv:validT t with
  | false=>exact puts_main w t u hI hr c hg (by omega) (by omega) 0 2 6 σ0 (put_bad hr hs (by omega) (by omega) 2 (.inl ⟨hv,rfl⟩)) (.inl ⟨hv,rfl,rfl,rfl⟩)
  | true =>
   by_cases hN:c < needT (n + 1) t
   ·exact puts_main w t u hI hr c hg (by omega) (by omega) 0 5 6 σ0 (put_bad hr hs (by omega) (by omega) 5 (.inr ⟨hv,hN,rfl⟩)) (.inr (.inl ⟨hv,hN,rfl,rfl,rfl⟩))
   ·obtain ⟨_,hf,h0,h3⟩:=cap0 hv hs;exact puts_main w t u hI hr c hg (by omega) (by omega) _ 0 0 _ (put_good hr hs (by omega) (by omega) hv hN) (.inr (.inr ⟨hv,hN,rfl,rfl,by have:((putO (n + 1) t σ0).2.Y.length:Int) = 0 + needT (n + 1) t:=putO_Y n t σ0 hf;omega⟩))
end Go.Proofs.YtpnlnbolhkcnjaaGreat.hp
