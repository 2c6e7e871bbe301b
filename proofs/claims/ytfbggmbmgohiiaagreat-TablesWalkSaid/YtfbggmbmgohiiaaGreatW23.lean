/- Texts of this seat, one behind the other: TnE, TnF, TnG. No condition beyond theirs. -/
import Derived.Test.YtfbggmbmgohiiaaGreatW22
import Derived.Test.YtfbggmbmgohiiaaGreatW18
set_option linter.unusedSimpArgs false
set_option linter.unusedVariables false
set_option maxHeartbeats 4000000
set_option maxRecDepth 100000
namespace Go.Proofs.YtfbggmbmgohiiaaGreat.tm
open Go.RowKit mem names
def RCmpS (n:Nat):Prop:=∀ (w:World) (B:Nat) (v1 v2:Value) (a b:Tm (n + 1)),B ≤ w.heap.size→ItemsAt w B n v1 a.items→ItemsAt w B n v2 b.items→formedT a = true→formedT b = true→Calls Tryz.prog 86 #[aggV a.f v1,aggV b.f v2] w (IPostC (cmpTm (n + 1) a b) w)
theorem pairElR {n:Nat} (ih:∀ m,n = m + 1→RCmpS m) (w:World) (B:Nat) (p1 p2:Option Addr) (n1 n2 c1 c2:Nat) (l1 l2:List (Tm n)) (hB:B ≤ w.heap.size) (h1:ItemsAt w B n (.slice p1 n1 c1) l1) (h2:ItemsAt w B n (.slice p2 n2 c2) l2) (f1:∀ x ∈ l1,FT n x) (f2:∀ x ∈ l2,FT n x) :
 ∀ i j,(hi:i < l1.length)→(hj:j < l2.length)→∃ g1 o1 x1 q1 m1 d1 g2 o2 x2 q2 m2 d2,p1 = some ⟨g1,o1,none⟩∧g1 < w.heap.size∧Cells w g1 (o1 + i * 9) x1 (.slice q1 m1 d1)∧p2 = some ⟨g2,o2,none⟩∧g2 < w.heap.size∧Cells w g2 (o2 + j * 9) x2 (.slice q2 m2 d2) ∧
  x1.kind = kdT n l1[i]∧x2.kind = kdT n l2[j]∧∀ W,Below w.heap.size w W→Calls Tryz.prog 86 #[aggV x1 (.slice q1 m1 d1),aggV x2 (.slice q2 m2 d2)] W (IPostC (cmpTm n l1[i] l2[j]) W):=by
 cases n with
 | zero=>intro i j hi;rw [Tm.nil0 l1] at hi;exact absurd hi (by simp)
 | succ n =>
  intro i j hi hj
  obtain ⟨g1,o1,d1,e1,_,_,hg1,hx1⟩:=h1.at_ (by intro e;subst e;simp at hi)
  obtain ⟨u1,hC1,hI1⟩:=hx1 i hi
  obtain ⟨g2,o2,d2,e2,_,_,hg2,hx2⟩:=h2.at_ (by intro e;subst e;simp at hj)
  obtain ⟨u2,hC2,hI2⟩:=hx2 j hj
  simp only [Value.slice.injEq] at e1 e2
  obtain ⟨q1,c1',rfl,_,_⟩:=hI1.shape
  obtain ⟨q2,c2',rfl,_,_⟩:=hI2.shape
  refine ⟨g1,o1,l1[i].f,q1,_,c1',g2,o2,l2[j].f,q2,_,c2',e1.1,by omega,hC1,e2.1,by omega,hC2,rfl,rfl,fun W hb=>?_⟩
  exact ih n rfl W B _ _ l1[i] l2[j] (Nat.le_trans hB hb.size) (hI1.below hb hB) (hI2.below hb hB) (f1 _ (List.getElem_mem hi)) (f2 _ (List.getElem_mem hj))
theorem countedR {n:Nat} (ih:∀ m,n = m + 1→RCmpS m) (w:World) (B:Nat) (v1 v2:Value) (l1 l2:List (Tm n)) (hB:B ≤ w.heap.size) (h1:ItemsAt w B n v1 l1) (h2:ItemsAt w B n v2 l2) (f1:∀ x ∈ l1,FT n x) (f2:∀ x ∈ l2,FT n x) :
 Calls Tryz.prog 111 #[v1,v2] w (IPostC (itemsC (cmpTm n) l1 l2) w):=by
 obtain ⟨p1,c1,rfl,hc1,hm1⟩:=h1.shape
 obtain ⟨p2,c2,rfl,hc2,hm2⟩:=h2.shape
 unfold maxLen at hm1 hm2
 by_cases hl:l1.length = l2.length
 ·rw [show itemsC (cmpTm n) l1 l2 = eachC (cmpTm n) l1 l2 by unfold itemsC;rw [if_pos hl]]
  have HP:=Lib.hid (pairElR ih w B p1 p2 _ _ c1 c2 l1 l2 hB h1 h2 f1 f2)
  have HAt:=Lib.hid (each_at (cmpTm n) l1 l2)
  have HZ:=Lib.hid (each_zero (cmpTm n) l1 l2 hl)
  generalize eachC (cmpTm n) l1 l2 = r at *
  have HL:=Lib.hid hl
  rw [← hl] at hc2
  rw [← hl]
  clear ih h1 h2 f1 f2 hl
  go_enter Tryz.func111,Tryz.ntmps111
  go_wp2_with fail
  go_loopw [5] (fun s wr=>∃ k:Nat,s = .int .i64 k∧k ≤ l1.length∧Hid (∀ j,(a:j < l1.length)→(b:j < l2.length)→j < k→cmpTm n l1[j] l2[j] = 0)∧Below w.heap.size w wr) (fun s _=>l1.length - (intOf s).toNat)
  case atStart=>exact ⟨0,rfl,by omega,Lib.hid (fun j _ _ h=>by omega),Below.refl _ _⟩
  case round =>
   obtain ⟨k,rfl,hk,HA,hb⟩:=hrel
   by_cases hlt:k < l1.length
   ·have hkb:k < l2.length:=by have:=HL.out;omega
    obtain ⟨g1,o1,x1,q1,m1,d1,g2,o2,x2,q2,m2,d2,rfl,hg1,hC1,rfl,hg2,hC2,ek1,ek2,hCall⟩:=HP.out k k hlt hkb
    clear ek1 ek2
    have hC1:=hC1.same (hb.block g1 hg1)
    have hC2:=hC2.same (hb.block g2 hg2)
    obtain ⟨x10,x11,x12,x13,x14,x15,x16,x17,x18⟩:=hC1
    obtain ⟨y10,y11,y12,y13,y14,y15,y16,y17,y18⟩:=hC2
    have hb':Below w.heap.size w wr.drew:=hb.drewN 1
    have HC:=Lib.hid (hCall wr.drew hb')
    clear hCall
    have HA1:=Lib.hid (HAt.out k hlt hkb HA.out)
    have HA2:Hid (cmpTm n l1[k] l2[k] = 0→∀ j,(a:j < l1.length)→(b:j < l2.length)→j < k + 1→cmpTm n l1[j] l2[j] = 0):=Lib.hid (fun e j a b hj=>by
     by_cases e2:j = k
     ·subst e2;exact e
     ·exact HA.out j a b (by omega))
    generalize cmpTm n l1[k] l2[k] = x at *
    unfold aggV IPostC at HC
    go_wp2_with fail
    go_still_tail 8,(by kernel_rfl)
    change wpList _ _ _ _ _ wr.drew
    clear x10 x11 x12 x13 x14 x15 x16 x17 x18 y10 y11 y12 y13 y14 y15 y16 y17 y18
    generalize wr.drew = w2 at *
    go_wp2_with fail
    refine HC.out.mono ?_
    rintro e w3 ⟨rfl,hb3⟩
    have hb4:Below w.heap.size w w3:=hb'.trans (hb3.mono hb'.size)
    by_cases hx:x = 0
    ·subst hx
     have H2:=Lib.hid (HA2.out rfl)
     clear HA1 HA2
     go_wp2_with fail
     go_roundw
     case rel=>exact ⟨k + 1,by go_num,by omega,H2,hb4⟩
     case measure=>simp [intOf];omega
    ·have q:(x != 0) = true:=by simp [hx]
     have HF:=Lib.hid (HA1.out hx)
     clear HA1 HA2 hx
     go_wp2_with fail
     go_ret
     exact ⟨ret1i HF.out.symm,hb4⟩
   ·have HF:=Lib.hid (HZ.out (fun j a b=>HA.out j a b (by omega)))
    go_wp2_with fail
    go_ret
    exact ⟨ret1i HF.out.symm,hb⟩
 ·rw [show itemsC (cmpTm n) l1 l2 = cmpI l1.length l2.length by unfold itemsC;rw [if_neg hl]]
  have HI:=Lib.hid (fun W=>ints (l1.length:Int) (l2.length:Int) W)
  have q:((l1.length:Int) != (l2.length:Int)) = true:=by simp;omega
  clear ih h1 h2 f1 f2 hl
  generalize cmpI (l1.length:Int) (l2.length:Int) = z at *
  generalize l1.length = a at *
  generalize l2.length = b at *
  go_enter Tryz.func111,Tryz.ntmps111
  go_wp2_with fail
  refine (HI.out _).mono ?_
  rintro e w' ⟨rfl,rfl⟩
  go_wp2_with fail
  go_ret
  exact ⟨rfl,Below.refl _ _⟩
def VPost (v:Value) (w:World) (e:Ending) (w':World):Prop:=e = .returned v∧Below w.heap.size w w'
def listF:TF:=⟨9,0,0,⟨#[]⟩,⟨#[]⟩,0,⟨#[]⟩,0⟩
theorem rest2 (g o c:Nat) (f:TF) (q:Option Addr) (m d:Nat) (w:World) (hg:g < w.heap.size) (hC:Cells w g (o + 9) f (.slice q m d)) :
 Calls Tryz.prog 125 #[.slice (some ⟨g,o,none⟩) 2 c] w (VPost (aggV f (.slice q m d)) w):=by
 obtain ⟨k,i,gg,nm,fn,ar,by_,bt⟩:=f
 obtain ⟨x0,x1,x2,x3,x4,x5,x6,x7,x8⟩:=hC
 dsimp only at x0 x1 x2 x3 x4 x5 x6 x7 x8
 unfold VPost aggV
 dsimp only
 go_enter Tryz.func125,Tryz.ntmps125
 go_wp2_with fail
 exact bodyPost_ret (v:=(.agg #[.int .i64 k,.int .i64 i,.int .i64 gg,.string nm,.string fn,.int .i64 ar,.slice q m d,.string by_,.int .i64 bt])) (by simp [results,Tryz.results125,go_sem, *]) rfl ⟨rfl,by (repeat' (first | with_reducible exact Below.refl _ _ | with_reducible refine Below.alloc ?_ ?_ _ | with_reducible exact Nat.le_refl _ | with_reducible refine Below.setCell ?_ ?_ _))⟩
theorem rest3 (g o a x:Nat) (w:World) (hx:a ≤ x) (hm:x + 3 ≤ maxLen) :
 Calls Tryz.prog 125 #[.slice (some ⟨g,o,none⟩) (a + 3) (x + 3)] w (VPost (aggV listF (.slice (some ⟨g,o + 9,none⟩) (a + 2) (x + 2))) w):=by
 unfold maxLen at hm
 unfold VPost aggV listF
 dsimp only
 have q:((a:Int) + 3 == 2) = false:=by simp;omega
 have q2:((a + 3:Nat):Int) = (a:Int) + 3:=by omega
 go_enter Tryz.func125,Tryz.ntmps125
 go_wp2_with fail
 exact bodyPost_ret (v:=(.agg #[.int .i64 9,.int .i64 0,.int .i64 0,.string ⟨#[]⟩,.string ⟨#[]⟩,.int .i64 0,.slice (some ⟨g,o + 9,none⟩) (a + 2) (x + 2),.string ⟨#[]⟩,.int .i64 0])) (by simp [results,Tryz.results125,go_sem, *]) rfl ⟨rfl,by (repeat' (first | with_reducible exact Below.refl _ _ | with_reducible refine Below.alloc ?_ ?_ _ | with_reducible exact Nat.le_refl _ | with_reducible refine Below.setCell ?_ ?_ _))⟩
theorem GoodC.all {α:Type} {S:α→Prop} {kd:α→Int}:∀ {l:List α} {a:α},GoodC S kd a l→∀ x ∈ a :: l,S x
 | [],a,h,x,hx=>by simp at hx;subst hx;exact h.1
 | b :: l,a,h,x,hx=>by
  rcases List.mem_cons.1 hx with rfl | hx
  ·exact h.1
  ·exact GoodC.all h.2 x hx
theorem GoodL.all {α:Type} {S:α→Prop} {kd:α→Int} {l:List α} (h:GoodL S kd l):∀ x ∈ l,S x:=by
 cases l with
 | nil=>simp
 | cons a l=>exact GoodC.all h
theorem GoodL.tail {α:Type} {S:α→Prop} {kd:α→Int} {l:List α} (h:GoodL S kd l):GoodL S kd (l.drop 1):=by
 cases l with
 | nil=>trivial
 | cons a l=>cases l with
  | nil=>trivial
  | cons b l=>exact h.2
theorem GoodL.last {α:Type} {S:α→Prop} {kd:α→Int} {l:List α} (h:GoodL S kd l) (h2:l.length = 2):kd (l[1]'(by omega)) ≠ 9:=by
 match l,h,h2 with
 | [a,b],h,_=>exact h.2.2
theorem ItemsAt.tail {w:World} {B n a x g o:Nat} {l:List (Tm (n + 1))} (h:ItemsAt w B (n + 1) (.slice (some ⟨g,o,none⟩) (a + 3) (x + 3)) l):ItemsAt w B (n + 1) (.slice (some ⟨g,o + 9,none⟩) (a + 2) (x + 2)) (l.drop 1):=by
 obtain ⟨p,c,e,h1,h2,h3⟩:=h
 simp only [Value.slice.injEq] at e
 obtain ⟨rfl,e2,rfl⟩:=e
 have hl:(l.drop 1).length = a + 2:=by simp;omega
 refine ⟨some ⟨g,o + 9,none⟩,x + 2,by rw [hl],by omega,by omega,fun _=>?_⟩
 obtain ⟨g',o',e,hg,hc⟩:=h3 (by intro e;subst e;simp at e2)
 simp only [Option.some.injEq,Addr.mk.injEq] at e
 obtain ⟨rfl,rfl,_⟩:=e
 refine ⟨g,o + 9,rfl,hg,fun j hj=>?_⟩
 obtain ⟨u,hc1,hc2⟩:=hc (j + 1) (by omega)
 have e:(l.drop 1)[j] = l[j + 1]'(by omega):=by simp [Nat.add_comm]
 rw [e,show o + 9 + j * 9 = o + (j + 1) * 9 by omega]
 exact ⟨u,hc1,hc2⟩
theorem cellsF (g1 o1 g2 o2 a b x y:Nat) (x1 x2:TF) (q1 q2:Option Addr) (m1 d1 m2 d2:Nat) (w:World) (z r:Int) (r1 r2:Value) (hz:z ≠ 0→r = z)
 (hC1:Cells w g1 o1 x1 (.slice q1 m1 d1)) (hC2:Cells w g2 o2 x2 (.slice q2 m2 d2)) (hax:a ≤ x) (hby:b ≤ y) (hxm:x + 2 ≤ maxLen) (hym:y + 2 ≤ maxLen)
 (hCall:∀ W,Below w.heap.size w W→Calls Tryz.prog 86 #[aggV x1 (.slice q1 m1 d1),aggV x2 (.slice q2 m2 d2)] W (IPostC z W))
 (hR1:∀ W,Below w.heap.size w W→Calls Tryz.prog 125 #[.slice (some ⟨g1,o1,none⟩) (a + 2) (x + 2)] W (VPost r1 W))
 (hR2:∀ W,Below w.heap.size w W→Calls Tryz.prog 125 #[.slice (some ⟨g2,o2,none⟩) (b + 2) (y + 2)] W (VPost r2 W))
 (hF:z = 0→∀ W,Below w.heap.size w W→Calls Tryz.prog 86 #[r1,r2] W (IPostC r W)) (hs1:∃ f v,r1 = aggV f v) (hs2:∃ f v,r2 = aggV f v) :
 Calls Tryz.prog 112 #[.slice (some ⟨g1,o1,none⟩) (a + 2) (x + 2),.slice (some ⟨g2,o2,none⟩) (b + 2) (y + 2)] w (IPostC r w):=by
 obtain ⟨f1,v1,rfl⟩:=hs1
 obtain ⟨f2,v2,rfl⟩:=hs2
 unfold maxLen at hxm hym
 have HR1:=Lib.hid hR1
 have HR2:=Lib.hid hR2
 have HF:=Lib.hid hF
 have HZ:=Lib.hid hz
 have hb':Below w.heap.size w w.drew:=(Below.refl _ w).drewN 1
 have HC:=Lib.hid (hCall w.drew hb')
 clear hR1 hR2 hF hz hCall
 obtain ⟨x10,x11,x12,x13,x14,x15,x16,x17,x18⟩:=hC1
 obtain ⟨y10,y11,y12,y13,y14,y15,y16,y17,y18⟩:=hC2
 unfold aggV IPostC VPost at *
 have ha2:(0:Int) < (a:Int) + 2:=by omega
 have hb2:(0:Int) < (b:Int) + 2:=by omega
 have ha2n:0 < a + 2:=by omega
 have hb2n:0 < b + 2:=by omega
 go_enter Tryz.func112,Tryz.ntmps112
 go_wp2_with fail
 go_still_tail 6,(by kernel_rfl)
 change wpList _ _ _ _ _ w.drew
 clear x10 x11 x12 x13 x14 x15 x16 x17 x18 y10 y11 y12 y13 y14 y15 y16 y17 y18
 have HB':=Lib.hid hb'
 clear hb'
 generalize w.drew = w2 at *
 go_wp2_with fail
 refine HC.out.mono ?_
 rintro e w3 ⟨rfl,hb3⟩
 have hb4:Below w.heap.size w w3:=HB'.out.trans (hb3.mono HB'.out.size)
 by_cases hx:z = 0
 ·subst hx
  have HF2:=Lib.hid (HF.out rfl)
  have HR1':=Lib.hid (HR1.out w3 hb4)
  clear HF HZ HR1
  go_wp2_with fail
  refine HR1'.out.mono ?_
  rintro e w4 ⟨rfl,hb5⟩
  have hb6:=hb4.trans (hb5.mono hb4.size)
  have HR2':=Lib.hid (HR2.out w4 hb6)
  go_wp2_with fail
  refine HR2'.out.mono ?_
  rintro e w5 ⟨rfl,hb7⟩
  have hb8:=hb6.trans (hb7.mono hb6.size)
  have HF3:=Lib.hid (HF2.out w5 hb8)
  go_wp2_with fail
  refine HF3.out.mono ?_
  rintro e w6 ⟨rfl,hb9⟩
  go_wp2_with fail
  go_ret
  exact ⟨rfl,hb8.trans (hb9.mono hb8.size)⟩
 ·have q:(z != 0) = true:=by simp [hx]
  have HF:=Lib.hid (HZ.out hx)
  clear hx HZ
  go_wp2_with fail
  go_ret
  exact ⟨ret1i HF.out.symm,hb4⟩
theorem fNe' (f1 f2:TF) (p1 p2:Option Addr) (m1 c1 m2 c2:Nat) (w:World) (h:f1.kind ≠ f2.kind):Calls Tryz.prog 86 #[aggV f1 (.slice p1 m1 c1),aggV f2 (.slice p2 m2 c2)] w (IPostC (cmpI f1.kind f2.kind) w):=by
 obtain ⟨k1,i1,g1,n1,fn1,a1,b1,s1⟩:=f1
 obtain ⟨k2,i2,g2,n2,fn2,a2,b2,s2⟩:=f2
 exact fNe _ _ _ _ _ _ _ _ _ _ _ _ _ _ _ _ _ _ _ _ w k1 k2 h
theorem cellsR {n:Nat} (ih:∀ m,n = m + 1→RCmpS m):∀ (N:Nat) (w:World) (B:Nat) (v1 v2:Value) (l1 l2:List (Tm n)),l1.length ≤ N→B ≤ w.heap.size→ItemsAt w B n v1 l1→ItemsAt w B n v2 l2→GoodL (FT n) (kdT n) l1→GoodL (FT n) (kdT n) l2→2 ≤ l1.length→2 ≤ l2.length →
 Calls Tryz.prog 112 #[v1,v2] w (IPostC (listsC (kdT n) (cmpTm n) l1 l2) w):=by
 cases n with
 | zero=>intro N w B v1 v2 l1 l2 _ _ _ _ _ _ h;rw [Tm.nil0 l1] at h;simp at h
 | succ n =>
 intro N
 induction N with
 | zero=>intro w B v1 v2 l1 l2 h _ _ _ _ _ h2;omega
 | succ N ihN =>
  intro w B v1 v2 l1 l2 hN hB h1 h2 f1 f2 e1 e2
  obtain ⟨g1,o1,c1,rfl,hc1,hm1,hg1,hx1⟩:=h1.at_ (by intro e;subst e;simp at e1)
  obtain ⟨g2,o2,c2,rfl,hc2,hm2,hg2,hx2⟩:=h2.at_ (by intro e;subst e;simp at e2)
  obtain ⟨u1,hC1,hI1⟩:=hx1 0 (by omega)
  obtain ⟨u2,hC2,hI2⟩:=hx2 0 (by omega)
  obtain ⟨u3,hC3,hI3⟩:=hx1 1 (by omega)
  obtain ⟨u4,hC4,hI4⟩:=hx2 1 (by omega)
  obtain ⟨q1,d1,rfl,_,_⟩:=hI1.shape
  obtain ⟨q2,d2,rfl,_,_⟩:=hI2.shape
  obtain ⟨q3,d3,rfl,_,_⟩:=hI3.shape
  obtain ⟨q4,d4,rfl,_,_⟩:=hI4.shape
  have F1:=f1.all
  have F2:=f2.all
  have HA:=lists_at (kdT (n + 1)) (cmpTm (n + 1)) l1 l2 0 (by omega) (by omega)
  simp only [List.drop_zero,Nat.zero_add] at HA
  obtain ⟨A1,A2,A3,A4,A5⟩:=HA
  have hCall:=fun W (hb:Below w.heap.size w W)=>ih n rfl W B _ _ l1[0] l2[0] (Nat.le_trans hB hb.size) (hI1.below hb hB) (hI2.below hb hB) (F1 _ (List.getElem_mem _)) (F2 _ (List.getElem_mem _))
  have hCall2:=fun W (hb:Below w.heap.size w W)=>ih n rfl W B _ _ l1[1] l2[1] (Nat.le_trans hB hb.size) (hI3.below hb hB) (hI4.below hb hB) (F1 _ (List.getElem_mem _)) (F2 _ (List.getElem_mem _))
  obtain ⟨a,ha⟩:∃ a,l1.length = a + 2:=⟨l1.length - 2,by omega⟩
  obtain ⟨b,hb⟩:∃ b,l2.length = b + 2:=⟨l2.length - 2,by omega⟩
  obtain ⟨x,rfl⟩:∃ x,c1 = x + 2:=⟨c1 - 2,by omega⟩
  obtain ⟨y,rfl⟩:∃ y,c2 = y + 2:=⟨c2 - 2,by omega⟩
  rw [ha] at h1 hc1 ⊢
  rw [hb] at h2 hc2 ⊢
  have r1:∃ R1,(∃ f v,R1 = aggV f v)∧(∀ W,Below w.heap.size w W→Calls Tryz.prog 125 #[.slice (some ⟨g1,o1,none⟩) (a + 2) (x + 2)] W (VPost R1 W))∧(a = 0→R1 = aggV l1[1].f (.slice q3 l1[1].items.length d3))∧(a ≠ 0→∃ s,x = s + 1∧R1 = aggV listF (.slice (some ⟨g1,o1 + 9,none⟩) (a + 1) (s + 2))∧ItemsAt w B (n + 1) (.slice (some ⟨g1,o1 + 9,none⟩) (a + 1) (s + 2)) (l1.drop 1)):=by
   cases a with
   | zero=>exact ⟨_,⟨_,_,rfl⟩,fun W hb=>rest2 g1 o1 _ _ q3 _ d3 W (Nat.lt_of_lt_of_le (Nat.lt_of_lt_of_le hg1 hB) hb.size) ((show o1 + 1 * 9 = o1 + 9 by omega) ▸ hC3.same (hb.block g1 (by omega))),fun _=>rfl,fun h=>absurd rfl h⟩
   | succ a =>
    obtain ⟨s,rfl⟩:∃ s,x = s + 1:=⟨x - 1,by omega⟩
    exact ⟨_,⟨_,_,rfl⟩,fun W hb=>rest3 g1 o1 a s W (by omega) (by omega),fun h=>by omega,fun _=>⟨s,rfl,rfl,h1.tail⟩⟩
  have r2:∃ R2,(∃ f v,R2 = aggV f v)∧(∀ W,Below w.heap.size w W→Calls Tryz.prog 125 #[.slice (some ⟨g2,o2,none⟩) (b + 2) (y + 2)] W (VPost R2 W))∧(b = 0→R2 = aggV l2[1].f (.slice q4 l2[1].items.length d4))∧(b ≠ 0→∃ s,y = s + 1∧R2 = aggV listF (.slice (some ⟨g2,o2 + 9,none⟩) (b + 1) (s + 2))∧ItemsAt w B (n + 1) (.slice (some ⟨g2,o2 + 9,none⟩) (b + 1) (s + 2)) (l2.drop 1)):=by
   cases b with
   | zero=>exact ⟨_,⟨_,_,rfl⟩,fun W hb=>rest2 g2 o2 _ _ q4 _ d4 W (Nat.lt_of_lt_of_le (Nat.lt_of_lt_of_le hg2 hB) hb.size) ((show o2 + 1 * 9 = o2 + 9 by omega) ▸ hC4.same (hb.block g2 (by omega))),fun _=>rfl,fun h=>absurd rfl h⟩
   | succ b =>
    obtain ⟨s,rfl⟩:∃ s,y = s + 1:=⟨y - 1,by omega⟩
    exact ⟨_,⟨_,_,rfl⟩,fun W hb=>rest3 g2 o2 b s W (by omega) (by omega),fun h=>by omega,fun _=>⟨s,rfl,rfl,h2.tail⟩⟩
  obtain ⟨R1,hs1,hR1,hr10,hr11⟩:=r1
  obtain ⟨R2,hs2,hR2,hr20,hr21⟩:=r2
  refine cellsF g1 o1 g2 o2 a b x y l1[0].f l2[0].f q1 q2 _ d1 _ d2 w (cmpTm (n + 1) l1[0] l2[0]) _ R1 R2 (fun h=>A1 h) ((show o1 + 0 * 9 = o1 by omega) ▸ hC1) ((show o2 + 0 * 9 = o2 by omega) ▸ hC2) (by omega) (by omega) hm1 hm2 hCall hR1 hR2 (fun hz W hb=>?_) hs1 hs2
  rw [A2 hz]
  by_cases ea:a = 0
  ·rw [hr10 ea]
   have k1:l1[1].f.kind ≠ 9:=f1.last (by omega)
   by_cases eb:b = 0
   ·rw [hr20 eb,A3 (by omega) (by omega)]
    exact hCall2 W hb
   ·obtain ⟨s,_,e,_⟩:=hr21 eb
    rw [e,A4 (by omega) (by omega)]
    exact fNe' _ listF _ _ _ _ _ _ W k1
  ·obtain ⟨s,_,e,hT1⟩:=hr11 ea
   rw [e]
   by_cases eb:b = 0
   ·have k2:l2[1].f.kind ≠ 9:=f2.last (by omega)
    rw [hr20 eb,A5 (by omega) (by omega)]
    exact fNe' listF _ _ _ _ _ _ _ W (Ne.symm k2)
   ·obtain ⟨s2,_,e2,hT2⟩:=hr21 eb
    rw [e2]
    exact f9 0 0 0 0 _ _ _ _ 0 0 _ _ 0 0 _ _ _ _ _ _ W _ (fun W' hb'=>ihN W' B _ _ (l1.drop 1) (l2.drop 1) (by simp;omega) (Nat.le_trans hB (Nat.le_trans hb.size hb'.size)) ((hT1.below hb hB).below hb' (Nat.le_trans hB hb.size)) ((hT2.below hb hB).below hb' (Nat.le_trans hB hb.size)) f1.tail f2.tail (by simp;omega) (by simp;omega))
theorem cmpI_self (a:Int):cmpI a a = 0:=cmpI_0 rfl
theorem cmpB_self (a:ByteArray):cmpB a a = 0:=tpB.refl a
theorem firstL_c (a:Int) (l:List Int):firstL (a :: l) = if a = 0 then firstL l else a:=rfl
def refH (f1 f2:TF) (ri:Int):Int :=
 if f1.kind = 1 then cmpI f1.int f2.int
 else if f1.kind = 2 then cmpB f1.name f2.name
 else if f1.kind = 3∨f1.kind = 6 then firstL [cmpB f1.name f2.name,cmpI f1.gen f2.gen,cmpI f1.int f2.int]
 else if f1.kind = 4 then firstL [cmpB f1.name f2.name,cmpI f1.gen f2.gen,cmpI f1.int f2.int,cmpI f1.arity f2.arity,ri]
 else if f1.kind = 5 then firstL [cmpB f1.name f2.name,cmpB f1.func f2.func,cmpI f1.arity f2.arity]
 else 0
theorem head_ref (f1 f2:TF) (ri:Int) (hk:f1.kind = f2.kind) (z1:({ bareF f1 with kind:=0 }:TF) = zeroF) (z2:({ bareF f2 with kind:=0 }:TF) = zeroF) (h7:f1.kind ≠ 7) (h9:f1.kind ≠ 9) (h10:f1.kind ≠ 10) (h0:f1.kind ≠ 4→ri = 0) :
 (if headC f1 f2 = 0 then ri else headC f1 f2) = refH f1 f2 ri:=by
 obtain ⟨k1,i1,g1,n1,fn1,a1,b1,s1⟩:=f1
 obtain ⟨k2,i2,g2,n2,fn2,a2,b2,s2⟩:=f2
 dsimp only at hk h7 h9 h10 h0
 subst hk
 unfold bareF zeroF at z1 z2
 unfold headC refH
 dsimp only at z1 z2 ⊢
 by_cases h1:k1 = 1
 ·rw [h0 (by omega)]
  rw [if_pos h1] at z1 z2
  simp at z1 z2
  simp only [z1,z2,cmpB_self,cmpI_self,firstL_c,if_pos h1,if_true]
  split <;> simp_all [firstL]
 rw [if_neg h1] at z1 z2 ⊢
 by_cases h2:k1 = 2
 ·rw [h0 (by omega)]
  rw [if_pos h2] at z1 z2
  simp at z1 z2
  simp only [z1,z2,cmpB_self,cmpI_self,firstL_c,if_pos h2,if_true]
  split <;> simp_all [firstL]
 rw [if_neg h2] at z1 z2 ⊢
 by_cases h3:k1 = 3∨k1 = 6
 ·rw [h0 (by omega)]
  rw [if_pos h3] at z1 z2
  simp at z1 z2
  simp only [z1,z2,cmpB_self,cmpI_self,firstL_c,if_pos h3,if_true,firstL]
  generalize cmpB n1 n2 = x
  generalize cmpI g1 g2 = y
  generalize cmpI i1 i2 = z
  repeat' split
  all_goals first | rfl | omega | simp_all
 rw [if_neg h3] at z1 z2 ⊢
 by_cases h4:k1 = 4
 ·rw [if_pos h4] at z1 z2
  simp at z1 z2
  simp only [z1,z2,cmpB_self,cmpI_self,firstL_c,if_pos h4,if_true,firstL]
  generalize cmpB n1 n2 = x
  generalize cmpI g1 g2 = y
  generalize cmpI i1 i2 = z
  generalize cmpI a1 a2 = t
  repeat' split
  all_goals first | rfl | omega | simp_all
 rw [if_neg h4] at z1 z2 ⊢
 by_cases h5:k1 = 5
 ·rw [h0 h4]
  rw [if_pos h5] at z1 z2
  simp at z1 z2
  simp only [z1,z2,cmpB_self,cmpI_self,firstL_c,if_pos h5,if_true,firstL]
  generalize cmpB n1 n2 = x
  generalize cmpB fn1 fn2 = y
  generalize cmpI a1 a2 = z
  repeat' split
  all_goals first | rfl | omega | simp_all
 ·rw [h0 h4]
  rw [if_neg h5,if_neg h10] at z1 z2
  simp at z1 z2
  simp only [z1,z2,cmpB_self,cmpI_self,firstL_c,if_neg h5,if_true,firstL]
theorem formedF (x y:TF) (p1 p2:Option Addr) (m1 c1 m2 c2:Nat) (ri rl:Int) (w:World)
 (hItems:∀ W,Below w.heap.size w W→Calls Tryz.prog 111 #[.slice p1 m1 c1,.slice p2 m2 c2] W (IPostC ri W))
 (hLists:x.kind = 9→y.kind = 9→∀ W,Below w.heap.size w W→Calls Tryz.prog 112 #[.slice p1 m1 c1,.slice p2 m2 c2] W (IPostC rl W))
 (hb1:x.kind = 10→BitsOK x) (hb2:y.kind = 10→BitsOK y) (hkk:1 ≤ x.kind∧x.kind ≤ 10) :
 Calls Tryz.prog 86 #[aggV x (.slice p1 m1 c1),aggV y (.slice p2 m2 c2)] w (IPostC (if x.kind = y.kind then (if x.kind = 7 then ri else if x.kind = 9 then rl else if x.kind = 10 then bitsC x y else refH x y ri) else cmpI x.kind y.kind) w):=by
 by_cases hk:x.kind = y.kind
 case neg=>rw [if_neg hk];exact fNe' _ _ _ _ _ _ _ _ w hk
 rw [if_pos hk]
 have hbb:∀ W:World,x.kind = 10→Calls Tryz.prog 113 #[aggV x (.slice p1 m1 c1),aggV y (.slice p2 m2 c2)] W (IPostC (bitsC x y) W):=fun W h=>bitsR x y _ _ _ _ _ _ W (hb1 h) (hb2 (by omega))
 unfold refH
 obtain ⟨k1,i1,g1,n1,fn1,a1,b1,s1⟩:=x
 obtain ⟨k2,i2,g2,n2,fn2,a2,b2,s2⟩:=y
 dsimp only at *
 subst hk
 generalize bitsC ⟨k1,i1,g1,n1,fn1,a1,b1,s1⟩ ⟨k1,i2,g2,n2,fn2,a2,b2,s2⟩ = rb at *
 rcases (show k1 = 1∨k1 = 2∨k1 = 3∨k1 = 4∨k1 = 5∨k1 = 6∨k1 = 7∨k1 = 8∨k1 = 9∨k1 = 10 by omega) with rfl | rfl | rfl | rfl | rfl | rfl | rfl | rfl | rfl | rfl
 ·exact f1 _ _ _ _ _ _ _ _ _ _ _ _ _ _ _ _ _ _ _ _ w
 ·exact f2 _ _ _ _ _ _ _ _ _ _ _ _ _ _ _ _ _ _ _ _ w
 ·exact f3 _ _ _ _ _ _ _ _ _ _ _ _ _ _ _ _ _ _ _ _ w
 ·exact f4 _ _ _ _ _ _ _ _ _ _ _ _ _ _ _ _ _ _ _ _ w ri hItems
 ·exact f5 _ _ _ _ _ _ _ _ _ _ _ _ _ _ _ _ _ _ _ _ w
 ·exact f6 _ _ _ _ _ _ _ _ _ _ _ _ _ _ _ _ _ _ _ _ w
 ·exact f7 _ _ _ _ _ _ _ _ _ _ _ _ _ _ _ _ _ _ _ _ w ri hItems
 ·exact f8 _ _ _ _ _ _ _ _ _ _ _ _ _ _ _ _ _ _ _ _ w
 ·exact f9 _ _ _ _ _ _ _ _ _ _ _ _ _ _ _ _ _ _ _ _ w rl (hLists rfl rfl)
 ·exact f10 _ _ _ _ _ _ _ _ _ _ _ _ _ _ _ _ _ _ _ _ w rb (fun W _=>hbb W rfl)
theorem ft_kind {n:Nat} {t:Tm (n + 1)} (h:formedT t = true):1 ≤ t.f.kind∧t.f.kind ≤ 10:=by
 obtain ⟨h1,h2,_,_⟩:=ft_ok h
 have h3:=of_decide_eq_true (show decide _ = true from h1)
 refine ⟨?_,h3.2⟩
 by_cases e:t.f.kind = 0
 ·unfold okF at h2
  rw [if_neg (by omega),if_neg (by omega),if_neg (by omega),if_neg (by omega),if_neg (by omega),if_neg (by omega),if_neg (by omega),if_neg (by omega)] at h2
  cases h2
 ·omega
theorem formedStep {n:Nat} (ih:∀ m,n = m + 1→RCmpS m):RCmpS n:=by
 intro w B v1 v2 a b hB h1 h2 f1 f2
 have F1:=ft_items f1
 have F2:=ft_items f2
 have hItems:=fun W (hb:Below w.heap.size w W)=>countedR ih W B v1 v2 a.items b.items (Nat.le_trans hB hb.size) (h1.below hb hB) (h2.below hb hB) F1 F2
 have hLists:=fun e1 e2 W (hb:Below w.heap.size w W)=>cellsR ih a.items.length W B v1 v2 a.items b.items (Nat.le_refl _) (Nat.le_trans hB hb.size) (h1.below hb hB) (h2.below hb hB) (ft_list f1 e1).2 (ft_list f2 e2).2 (ft_list f1 e1).1 (ft_list f2 e2).1
 obtain ⟨p1,c1,rfl,_,_⟩:=h1.shape
 obtain ⟨p2,c2,rfl,_,_⟩:=h2.shape
 have hr:cmpTm (n + 1) a b = (if a.f.kind = b.f.kind then (if a.f.kind = 7 then itemsC (cmpTm n) a.items b.items else if a.f.kind = 9 then listsC (kdT n) (cmpTm n) a.items b.items else if a.f.kind = 10 then bitsC a.f b.f else refH a.f b.f (itemsC (cmpTm n) a.items b.items)) else cmpI a.f.kind b.f.kind):=by
  rw [cmp_body]
  by_cases hk:a.f.kind = b.f.kind
  ·rw [if_pos hk,if_pos hk]
   unfold bodyC thenC
   dsimp only
   by_cases h7:a.f.kind = 7
   ·rw [if_pos h7,if_pos h7]
   rw [if_neg h7,if_neg h7]
   by_cases h9:a.f.kind = 9
   ·rw [if_pos h9,if_pos h9]
   rw [if_neg h9,if_neg h9]
   by_cases h10:a.f.kind = 10
   ·rw [if_pos h10,if_pos h10]
   rw [if_neg h10,if_neg h10]
   obtain ⟨_,_,z1,y1⟩:=ft_ok f1
   obtain ⟨_,_,z2,y2⟩:=ft_ok f2
   refine head_ref a.f b.f _ hk z1 z2 h7 h9 h10 (fun h4=>?_)
   rw [if_neg (by omega)] at y1 y2
   rw [List.length_eq_zero_iff.1 y1,List.length_eq_zero_iff.1 y2];rfl
  ·rw [if_neg hk,if_neg hk]
 rw [hr]
 exact formedF a.f b.f p1 p2 _ c1 _ c2 _ _ w hItems hLists (fun h=>ft_bits f1 h) (fun h=>ft_bits f2 h) (ft_kind f1)
theorem formedAll:∀ n,RCmpS n
 | 0=>formedStep (fun m h=>by omega)
 | n + 1 => formedStep (fun m h => by obtain rfl : n = m := by omega
                                      exact formedAll n)
theorem compareRF (x y:TF) (p1 p2:Option Addr) (m1 c1 m2 c2:Nat) (va vb:Bool) (r:Int) (w:World)
 (hV1:∀ W,Below w.heap.size w W→Calls Tryz.prog 28 #[aggV x (.slice p1 m1 c1)] W (BPost va W))
 (hV2:∀ W,Below w.heap.size w W→Calls Tryz.prog 28 #[aggV y (.slice p2 m2 c2)] W (BPost vb W))
 (hC:va = true→vb = true→∀ W,Below w.heap.size w W→Calls Tryz.prog 86 #[aggV x (.slice p1 m1 c1),aggV y (.slice p2 m2 c2)] W (IPostC r W)) :
 Calls Tryz.prog 54 #[aggV x (.slice p1 m1 c1),aggV y (.slice p2 m2 c2)] w (IPostC (if va = true then (if vb = true then r else 1) else (if vb = true then -1 else 0)) w):=by
 generalize hres:(if va = true then (if vb = true then r else 1) else (if vb = true then -1 else 0)) = res
 have HRes:=Lib.hid hres
 clear hres
 have HV1:=Lib.hid hV1
 have HV2:=Lib.hid hV2
 have HC:=Lib.hid hC
 clear hV1 hV2 hC
 obtain ⟨k1,i1,g1,n1,fn1,a1,b1,s1⟩:=x
 obtain ⟨k2,i2,g2,n2,fn2,a2,b2,s2⟩:=y
 unfold aggV BPost IPostC at *
 dsimp only at *
 go_enter Tryz.func54,Tryz.ntmps54
 go_wp2_with fail
 obtain ⟨hN1,hN2,hbw,hsz⟩:=boxes2 w ⟨k1,i1,g1,n1,fn1,a1,b1,s1⟩ ⟨k2,i2,g2,n2,fn2,a2,b2,s2⟩ (.slice p1 m1 c1) (.slice p2 m2 c2)
 unfold cells9 at hN1 hN2 hbw hsz
 dsimp only at hN1 hN2 hbw hsz
 generalize ((w.alloc (.cells #[.int .i64 k1,.int .i64 i1,.int .i64 g1,.string n1,.string fn1,.int .i64 a1,.slice p1 m1 c1,.string b1,.int .i64 s1] 24)).alloc (.cells #[.int .i64 k2,.int .i64 i2,.int .i64 g2,.string n2,.string fn2,.int .i64 a2,.slice p2 m2 c2,.string b2,.int .i64 s2] 24)) = W0 at *
 have HZ1:Hid (w.heap.size < W0.heap.size):=Lib.hid (by omega)
 have HZ2:Hid (w.heap.size + 1 < W0.heap.size):=Lib.hid (by omega)
 clear hsz
 have HN1:=Lib.hid hN1
 have HN2:=Lib.hid hN2
 obtain ⟨x0,x1,x2,x3,x4,x5,x6,x7,x8,xz⟩:=hN1
 obtain ⟨y0,y1,y2,y3,y4,y5,y6,y7,y8,yz⟩:=hN2
 dsimp only at x0 x1 x2 x3 x4 x5 x6 x7 x8 y0 y1 y2 y3 y4 y5 y6 y7 y8
 have hbd:Below w.heap.size w (W0.drewN 1):=hbw.drewN 1
 have HD1:=Lib.hid (show Nine (W0.drewN 1) w.heap.size ⟨k1,i1,g1,n1,fn1,a1,b1,s1⟩ (.slice p1 m1 c1) from nine_drew HN1.out)
 have HD2:=Lib.hid (show Nine (W0.drewN 1) (w.heap.size + 1) ⟨k2,i2,g2,n2,fn2,a2,b2,s2⟩ (.slice p2 m2 c2) from nine_drew HN2.out)
 go_region_held3 (fun w'=>(w'.cell? ⟨w.heap.size,0,none⟩ = some (.int .i64 k1)∧w'.cell? ⟨w.heap.size,1,none⟩ = some (.int .i64 i1)∧w'.cell? ⟨w.heap.size,2,none⟩ = some (.int .i64 g1)∧w'.cell? ⟨w.heap.size,3,none⟩ = some (.string n1)∧w'.cell? ⟨w.heap.size,4,none⟩ = some (.string fn1)∧w'.cell? ⟨w.heap.size,5,none⟩ = some (.int .i64 a1)∧w'.cell? ⟨w.heap.size,6,none⟩ = some (.slice p1 m1 c1)∧w'.cell? ⟨w.heap.size,7,none⟩ = some (.string b1)∧w'.cell? ⟨w.heap.size,8,none⟩ = some (.int .i64 s1))∧w'.cell? ⟨w.heap.size + 1,0,none⟩ = some (.int .i64 k2)∧w'.cell? ⟨w.heap.size + 1,1,none⟩ = some (.int .i64 i2)∧w'.cell? ⟨w.heap.size + 1,2,none⟩ = some (.int .i64 g2)∧w'.cell? ⟨w.heap.size + 1,3,none⟩ = some (.string n2)∧w'.cell? ⟨w.heap.size + 1,4,none⟩ = some (.string fn2)∧w'.cell? ⟨w.heap.size + 1,5,none⟩ = some (.int .i64 a2)∧w'.cell? ⟨w.heap.size + 1,6,none⟩ = some (.slice p2 m2 c2)∧w'.cell? ⟨w.heap.size + 1,7,none⟩ = some (.string b2)∧w'.cell? ⟨w.heap.size + 1,8,none⟩ = some (.int .i64 s2)) (go_keep)
  (first
    | (go_at_call 28;refine (HV1.out _ hbd).mono ?_;rintro e w1 ⟨rfl,hb⟩;have hbe:=hbd.trans (hb.mono hbd.size);have HM1:=Lib.hid (HD1.out.below hb HZ1.out);have HM2:=Lib.hid (HD2.out.below hb HZ2.out);obtain ⟨z0,z1,z2,z3,z4,z5,z6,z7,z8,zz⟩:=HM1.out;obtain ⟨t0,t1,t2,t3,t4,t5,t6,t7,t8,tz⟩:=HM2.out;dsimp only at z0 z1 z2 z3 z4 z5 z6 z7 z8 t0 t1 t2 t3 t4 t5 t6 t7 t8)
    | (go_at_call 28;refine (HV2.out _ hbd).mono ?_;rintro e w1 ⟨rfl,hb⟩;have hbe:=hbd.trans (hb.mono hbd.size);have HM1:=Lib.hid (HD1.out.below hb HZ1.out);have HM2:=Lib.hid (HD2.out.below hb HZ2.out);obtain ⟨z0,z1,z2,z3,z4,z5,z6,z7,z8,zz⟩:=HM1.out;obtain ⟨t0,t1,t2,t3,t4,t5,t6,t7,t8,tz⟩:=HM2.out;dsimp only at z0 z1 z2 z3 z4 z5 z6 z7 z8 t0 t1 t2 t3 t4 t5 t6 t7 t8)
    | (go_at_call 28;refine (HV1.out _ hbe).mono ?_;rintro e w2 ⟨rfl,hb2⟩;have hbf:=hbe.trans (hb2.mono hbe.size);have hz1:=Nat.lt_of_lt_of_le HZ1.out hb.size;have hz2:=Nat.lt_of_lt_of_le HZ2.out hb.size;have HL1:=Lib.hid (HM1.out.below hb2 hz1);have HL2:=Lib.hid (HM2.out.below hb2 hz2);obtain ⟨z0,z1,z2,z3,z4,z5,z6,z7,z8,zz⟩:=HL1.out;obtain ⟨t0,t1,t2,t3,t4,t5,t6,t7,t8,tz⟩:=HL2.out;dsimp only at z0 z1 z2 z3 z4 z5 z6 z7 z8 t0 t1 t2 t3 t4 t5 t6 t7 t8)
    | (go_at_call 28;refine (HV2.out _ hbe).mono ?_;rintro e w2 ⟨rfl,hb2⟩;have hbf:=hbe.trans (hb2.mono hbe.size);have hz1:=Nat.lt_of_lt_of_le HZ1.out hb.size;have hz2:=Nat.lt_of_lt_of_le HZ2.out hb.size;have HL1:=Lib.hid (HM1.out.below hb2 hz1);have HL2:=Lib.hid (HM2.out.below hb2 hz2);obtain ⟨z0,z1,z2,z3,z4,z5,z6,z7,z8,zz⟩:=HL1.out;obtain ⟨t0,t1,t2,t3,t4,t5,t6,t7,t8,tz⟩:=HL2.out;dsimp only at z0 z1 z2 z3 z4 z5 z6 z7 z8 t0 t1 t2 t3 t4 t5 t6 t7 t8))
 ·clear HM1 HM2 HL1 HL2 HN1 HN2 x0 x1 x2 x3 x4 x5 x6 x7 x8 xz y0 y1 y2 y3 y4 y5 y6 y7 y8 yz HV1 HV2
  cases va
  ·cases vb
   ·have HF:=Lib.hid (show 0 = res from HRes.out)
    go_wp2_with fail
    go_ret
    exact ⟨ret1i HF.out,by assumption⟩
   ·have HF:=Lib.hid (show -1 = res from HRes.out)
    go_wp2_with fail
    go_ret
    exact ⟨ret1i HF.out,by assumption⟩
  ·cases vb
   ·have HF:=Lib.hid (show 1 = res from HRes.out)
    go_wp2_with fail
    go_ret
    exact ⟨ret1i HF.out,by assumption⟩
   ·have HF:=Lib.hid (show r = res from HRes.out)
    have HC2:=Lib.hid (HC.out rfl rfl _ hbf)
    clear HC
    go_wp2_with fail
    refine HC2.out.mono ?_
    rintro e w3 ⟨rfl,hb3⟩
    go_wp2_with fail
    go_ret
    exact ⟨ret1i HF.out,hbf.trans (hb3.mono hbf.size)⟩
theorem RCompare {n:Nat} (w:World) (B:Nat) (v1 v2:Value) (a b:Tm (n + 1)) (hB:B ≤ w.heap.size) (h1:ItemsAt w B n v1 a.items) (h2:ItemsAt w B n v2 b.items) (s1:300 * (nodesT a:Int) ≤ 1000000000000) (s2:300 * (nodesT b:Int) ≤ 1000000000000) :
 Calls Tryz.prog 54 #[aggV a.f v1,aggV b.f v2] w (IPostC (cmpV a b) w):=by
 have hV1:=fun W (hb:Below w.heap.size w W)=>RValid W B v1 a (Nat.le_trans hB hb.size) (h1.below hb hB) s1
 have hV2:=fun W (hb:Below w.heap.size w W)=>RValid W B v2 b (Nat.le_trans hB hb.size) (h2.below hb hB) s2
 have hC:=fun f1 f2 W (hb:Below w.heap.size w W)=>formedAll n W B v1 v2 a b (Nat.le_trans hB hb.size) (h1.below hb hB) (h2.below hb hB) (valid_formed f1) (valid_formed f2)
 obtain ⟨p1,c1,rfl,_,_⟩:=h1.shape
 obtain ⟨p2,c2,rfl,_,_⟩:=h2.shape
 exact compareRF a.f b.f p1 p2 _ c1 _ c2 (validT a) (validT b) _ w hV1 hV2 hC
end Go.Proofs.YtfbggmbmgohiiaaGreat.tm
