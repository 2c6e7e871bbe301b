/- TmL,TmM. No condition beyond theirs. -/
import Derived.Test.YtpnlnbolhkcnjaaGreatK18
set_option linter.unusedSimpArgs false
set_option linter.unusedVariables false
set_option maxHeartbeats 1000000
set_option maxRecDepth 100000
namespace Go.Proofs.YtpnlnbolhkcnjaaGreat.tm
open Go.RowKit mem names
theorem closure {n:Nat} (ho:OfS n) (w:World) (B g z:Nat) (v:Value) (t:Tm (n + 1)) (s:Int) (hB:B ≤ w.heap.size) (hI:ItemsAt w B n v t.items) (hM:Meas w g s) (hg:B ≤ g) (hp:w.cell? ⟨z,0,none⟩ = some (.pointer (some ⟨g,0,none⟩))) (hz:z < w.heap.size) (hs:0 ≤ s) (hss:s + 300 * (nodesT t:Int) - 1 ≤ 1000000000000) :
 Calls Tryz.prog 267 #[aggV t.f v,.pointer (some ⟨z,0,none⟩)] w fun e w'=>e = .returned (.bool (!formedT t))∧∃ s',Meas w' g s'∧TouchB (fun k=>k = g) w w'∧0 ≤ s'∧s' ≤ s + 300 * nodesT t - 1∧(formedT t = true→s' = s + wholeT t):=by
 obtain ⟨p,c,rfl,_,_⟩:=hI.shape;have hgl:=hM.lt;have hO:=fun (W:World) (hb:Below w.heap.size w W)=>ho W B g _ t s (Nat.le_trans hB hb.size) (hI.below hb hB) (hM.block (hb.block g hgl)) hg hs hss;have HO:=Lib.hid hO;clear hO hI hM;unfold MPost at HO;generalize formedT t = r at *;generalize (nodesT t) = N at *;generalize (wholeT t) = W at *;generalize t.f = f at *;generalize t.items.length = len at *;obtain ⟨k,i,gg,nm,fn,ar,by_,bt⟩:=f;unfold aggV at *;dsimp only at *;go_enter Tryz.func267,Tryz.ntmps267;go_wp2_with fail;refine (HO.out _ ((Below.refl _ _).alloc (Nat.le_refl _) _)).mono ?_
 rintro e w' ⟨rfl,s',m1,m2,m3,m4,m5⟩;have HM:=Lib.hid m1;have HE:=Lib.hid m5;clear m1 m5;go_wp2_with fail;go_ret;refine ⟨rfl,s',HM.out,?_,m3,m4,HE.out⟩;exact ((TouchB.refl _ w).alloc _).trans m2 (fun _ _ e=>e)
def IPost {n:Nat} (g:Nat) (s:Int) (l:List (Tm n)) (w:World) (e:Ending) (w':World):Prop :=
 ∃ r:Int,e = .returned (.int .i64 r)∧(formedL n l = true→r = -1)∧(formedL n l = false→0 ≤ r)∧∃ s',Meas w' g s'∧TouchB (fun k=>k = g) w w'∧0 ≤ s'∧s' ≤ s + 300 * nodesL n l - l.length∧(formedL n l = true→s' = s + wholeL n l)
theorem search0 (w:World) (g z:Nat) (p:Option Addr) (c:Nat) (s:Int) (hM:Meas w g s) (hs:0 ≤ s) (l:List (Tm 0)) :
 Calls Tryz.prog 278 #[.slice p 0 c,.func (.func 267) #[] #[.pointer (some ⟨z,0,none⟩)]] w (IPost g s l w):=by
 have hfin:IPost g s l w (.returned (.int .i64 (-1))) w:=⟨-1,rfl,fun _=>rfl,(fun h=>by cases h),s,hM,TouchB.refl _ _,hs,by rw [Tm.nil0 l];simp [nodesL],fun _=>by simp [wholeL]⟩;have HF:=Lib.hid hfin;clear hfin hM;go_enter Tryz.func278,Tryz.ntmps278;go_wp2_with fail;refine wp_loop_rounds 1 ?_;rw [rounds_succ];go_wp2_with fail;go_ret;exact HF.out
theorem search1 {n:Nat} (ho:OfS n) (w:World) (B g z:Nat) (v:Value) (l:List (Tm (n + 1))) (s:Int) (hB:B ≤ w.heap.size) (hI:ItemsAt w B (n + 1) v l) (hM:Meas w g s) (hg:B ≤ g) (hp:w.cell? ⟨z,0,none⟩ = some (.pointer (some ⟨g,0,none⟩))) (hz:z < w.heap.size) (hzg:z ≠ g) (hs:0 ≤ s) (hss:s + 300 * (nodesL (n + 1) l:Int) - l.length ≤ 1000000000000) :
 Calls Tryz.prog 278 #[v,.func (.func 267) #[] #[.pointer (some ⟨z,0,none⟩)]] w (IPost g s l w):=by
 obtain ⟨p,c,rfl,hlc,hcm⟩:=hI.shape;have hgl:=hM.lt;have HI:=Lib.hid hI;have HM:=Lib.hid hM;have HP:=Lib.hid hp;have HS:=Lib.hid hss;clear hI hM hp hss;unfold maxLen at hcm;go_enter Tryz.func278,Tryz.ntmps278;go_wp2_with fail;go_loopw [8] (fun s8 wr=>∃ (k:Nat) (sk:Int),s8 = .int .i64 k∧k ≤ l.length∧Hid (Meas wr g sk)∧TouchB (fun k=>k = g) w wr∧0 ≤ sk∧Hid (sk = s + wholeL (n + 1) (l.take k))∧Hid (∀ j,(h:j < l.length)→j < k→formedT l[j] = true)∧Hid (sk ≤ s + 300 * nodesL (n + 1) (l.take k) - k)) (fun s8 _=>l.length - (intOf s8).toNat)
 case atStart =>
  refine ⟨0,s,rfl,by omega,HM,TouchB.refl _ _,hs,Lib.hid ?_,Lib.hid (fun j _ h=>by omega),Lib.hid ?_⟩
  ·simp [wholeL]
  ·simp [nodesL]
 case round =>
  obtain ⟨k,sk,rfl,hk,hMk,hT,hsk,hw,hall,hbd⟩:=hrel
  by_cases hlt:k < l.length
  ·have hI2:=HI.out.same (w':=wr) (fun q hq=>hT.block q (by omega) (by omega));obtain ⟨g1,o1,c1,e1,_,_,hg1,hx1⟩:=hI2.at_ (by intro e;subst e;simp at hlt);simp only [Value.slice.injEq] at e1;obtain ⟨rfl,_,rfl⟩:=e1;obtain ⟨u1,hC1,hI1⟩:=hx1 k hlt;clear hx1 hI2;have hpk:wr.cell? ⟨z,0,none⟩ = some (.pointer (some ⟨g,0,none⟩)):=(hT.cell (by exact hz) hzg).trans HP.out;have hnm:=nodes_mem hlt;have hnd:=nodes_len (n + 1) (l.drop (k + 1));simp only [List.length_drop] at hnd
   have hCl:=closure ho wr B g z u1 l[k] sk (Nat.le_trans hB hT.size) hI1 hMk.out hg hpk (Nat.lt_of_lt_of_le hz hT.size) hsk (by have:=HS.out;have:=hbd.out;omega);have hsnoc:=whole_snoc l k hlt;have HSN:=Lib.hid hsnoc;have hnb:∀ s':Int,s' ≤ sk + 300 * nodesT l[k] - 1→s' ≤ s + 300 * nodesL (n + 1) l - l.length∧s' ≤ s + 300 * nodesL (n + 1) (l.take (k + 1)) - ((k:Int) + 1):=fun s' h=>by
    have:=hbd.out;refine ⟨by omega,?_⟩;have e:nodesL (n + 1) (l.take (k + 1)) = nodesL (n + 1) (l.take k) + nodesT l[k]:=by
     rw [List.take_succ_eq_append_getElem hlt];unfold nodesL nodesT;simp only [List.map_append,List.map_cons,List.map_nil,List.sum_append,List.sum_cons,List.sum_nil];omega
    rw [e];omega
   have HNB:=Lib.hid hnb;clear hnb hsnoc hnm hnd hMk;obtain ⟨x0,x1,x2,x3,x4,x5,x6,x7,x8⟩:=hC1;have HNO:=Lib.hid (formed_no hlt);have HYES:Hid (formedT l[k] = true→∀ j,(h:j < l.length)→j < k + 1→formedT l[j] = true):=Lib.hid (fun h j hj hjk=>by
    by_cases e:j = k
    ·subst e;exact h
    ·exact hall.out j hj (by omega))
   have HCl:=Lib.hid hCl;clear hCl hI1;unfold aggV at HCl;generalize l[k] = x at *;generalize x.f = xf at *;go_wp2_with fail;refine HCl.out.mono ?_;rintro e w2 ⟨rfl,s2,m1,m2,m3,m4,m5⟩;have HM2:=Lib.hid m1;have hT2:TouchB (fun k=>k = g) w w2:=hT.trans m2 (fun _ _ e=>e);obtain ⟨b1,b2⟩:=HNB.out s2 m4
   by_cases hf:formedT x = true
   ·have h5:=Lib.hid (m5 hf);have hY:=HYES.out hf;have HY:=Lib.hid hY;have B2:=Lib.hid b2;clear hY b1 b2 m1 m4 m5 HNB;rw [hf];go_wp2_with fail;go_roundw
    case rel =>
     refine ⟨k + 1,s2,by go_num,by omega,HM2,hT2,m3,Lib.hid ?_,HY,Lib.hid ?_⟩
     ·rw [HSN.out,h5.out,hw.out];omega
     ·have:=B2.out;push_cast;omega
    case measure=>simp [intOf];omega
   ·have hf:formedT x = false:=by simpa using hf
    have hN:=Lib.hid (HNO.out hf);rw [hf];have hB1:=Lib.hid b1;clear b1 b2 m1 m4 m5 HNB;go_wp2_with fail;go_ret;refine ⟨k,rfl,(fun h=>by rw [hN.out] at h;cases h),(fun _=>by omega),s2,HM2.out,hT2,m3,hB1.out,(fun h=>by rw [hN.out] at h;cases h)⟩
  ·have hfin:formedL (n + 1) l = true:=formed_yes (fun j hj=>hall.out j hj (by omega));have HF:=Lib.hid hfin;have e:k = l.length:=by omega
   have hw':sk = s + wholeL (n + 1) l:=by have:=hw.out;rwa [List.take_of_length_le (by omega)] at this
   have hb':sk ≤ s + 300 * nodesL (n + 1) l - l.length:=by have:=hbd.out;rw [List.take_of_length_le (by omega)] at this;omega
   have HW:=Lib.hid hw';have HB:=Lib.hid hb';clear hfin e hw' hb';go_wp2_with fail;go_ret;exact ⟨-1,rfl,fun _=>rfl,(fun h=>by rw [HF.out] at h;cases h),sk,hMk.out,hT,hsk,HB.out,fun _=>HW.out⟩
theorem contains {n:Nat} (l:List (Tm n)) (g:Nat) (s:Int) (v fv:Value) (w:World) (h:Calls Tryz.prog 278 #[v,fv] w (IPost g s l w)) :
 Calls Tryz.prog 266 #[v,fv] w fun e w'=>e = .returned (.bool (!formedL n l))∧∃ s',Meas w' g s'∧TouchB (fun k=>k = g) w w'∧0 ≤ s'∧s' ≤ s + 300 * nodesL n l - l.length∧(formedL n l = true→s' = s + wholeL n l):=by
 have HH:=Lib.hid h;clear h;go_enter Tryz.func266,Tryz.ntmps266;go_wp2_with fail;refine HH.out.mono ?_;rintro e w' ⟨r,rfl,h1,h2,h3⟩;have H3:=Lib.hid h3;clear h3
 by_cases hf:formedL n l = true
 ·obtain rfl:=h1 hf;have HF:=Lib.hid hf;clear h1 h2 hf;go_wp2_with fail;go_ret;exact ⟨by rw [HF.out];rfl,H3.out⟩
 ·have hf:formedL n l = false:=by simpa using hf
  have h0:=h2 hf;have HF:=Lib.hid hf;have q:decide (0 ≤ r) = true:=decide_eq_true h0;clear h1 h2 hf;go_wp2_with fail;go_ret;exact ⟨by rw [HF.out];rfl,H3.out⟩
theorem con0:ConS 0:=by
 intro w B g z v l s hB hI hM hg hp hz hzg hs hss;obtain ⟨p,c,rfl,_⟩:=hI;exact contains l g s _ _ w (search0 w g z p c s hM hs l)
theorem con1 {n:Nat} (ho:OfS n):ConS (n + 1):=by
 intro w B g z v l s hB hI hM hg hp hz hzg hs hss;exact contains l g s _ _ w (search1 ho w B g z v l s hB hI hM hg hp hz hzg hs hss)
def SPost {n:Nat} (l:List (Tm n)) (w:World) (e:Ending) (w':World):Prop :=
 ∃ r:Int,e = .returned (.tuple #[.int .i64 r,.bool (formedL n l)])∧(formedL n l = true→r = wholeL n l)∧0 ≤ r∧Below w.heap.size w w'
theorem sumS {n:Nat} (ho:OfS n) (w:World) (B:Nat) (v:Value) (l:List (Tm (n + 1))) (hB:B ≤ w.heap.size) (hI:ItemsAt w B (n + 1) v l) (hss:300 * (nodesL (n + 1) l:Int) ≤ 1000000000000) :
 Calls Tryz.prog 193 #[v] w (SPost l w):=by
 obtain ⟨p,c,rfl,hlc,hcm⟩:=hI.shape;have HI:=Lib.hid hI;have HS:=Lib.hid hss;clear hI hss;unfold maxLen at hcm;go_enter Tryz.func193,Tryz.ntmps193;go_wp2_with fail;refine (kinds _).mono ?_;rintro e w1 ⟨rfl,hb1⟩;unfold fnsV;go_wp2_with fail;obtain ⟨W,hW⟩:∃ x,x = w1.alloc (measC 0):=⟨_,rfl⟩;have hMW:Meas W w1.heap.size 0:=by rw [hW];exact (MapKept.heap_alloc w1 (measC 0)).1
 have hbW:Below w.heap.size w W:=by rw [hW];exact hb1.alloc hb1.size _
 have hgB:w.heap.size ≤ w1.heap.size:=hb1.size;unfold measC at hW;rw [← hW];clear hW hb1;generalize w1.heap.size = g at *;have HMW:=Lib.hid hMW;clear hMW;go_loopw [15] (fun s8 wr=>∃ (k:Nat) (sk:Int),s8 = .int .i64 k∧k ≤ l.length∧Hid (Meas wr g sk)∧TouchB (fun k=>k = g) W wr∧0 ≤ sk∧Hid (sk = wholeL (n + 1) (l.take k))∧Hid (∀ j,(h:j < l.length)→j < k→formedT l[j] = true)∧Hid (sk ≤ 300 * nodesL (n + 1) (l.take k) - k)) (fun s8 _=>l.length - (intOf s8).toNat)
 case atStart =>
  refine ⟨0,0,rfl,by omega,HMW,TouchB.refl _ _,by omega,Lib.hid ?_,Lib.hid (fun j _ h=>by omega),Lib.hid ?_⟩
  ·simp [wholeL]
  ·simp [nodesL]
 case round =>
  obtain ⟨k,sk,rfl,hk,hMk,hT,hsk,hw,hall,hbd⟩:=hrel;have hgr:g < wr.heap.size:=hMk.out.lt;have hTb:Below w.heap.size w wr:=hbW.trans (hT.below (fun k e=>by subst e;exact hgB) hbW.size)
  by_cases hlt:k < l.length
  ·have hI2:=HI.out.below hTb hB;obtain ⟨g1,o1,c1,e1,_,_,hg1,hx1⟩:=hI2.at_ (by intro e;subst e;simp at hlt);simp only [Value.slice.injEq] at e1;obtain ⟨rfl,_,rfl⟩:=e1;obtain ⟨u1,hC1,hI1⟩:=hx1 k hlt;clear hx1 hI2;obtain ⟨p1,c1,rfl,_,_⟩:=hI1.shape;have hnm:=nodes_mem hlt;have hnd:=nodes_len (n + 1) (l.drop (k + 1));simp only [List.length_drop] at hnd
   have hCl:=fun (W':World) (h:Below wr.heap.size wr W')=>ho W' B g _ l[k] sk (Nat.le_trans hB (hTb.trans (h.mono hTb.size)).size) (hI1.below h (Nat.le_trans hB hTb.size)) (hMk.out.block (h.block g hgr)) (Nat.le_trans hB hgB) hsk (by have:=HS.out;have:=hbd.out;omega);have hsnoc:=whole_snoc l k hlt;have HSN:=Lib.hid hsnoc;have hnb:∀ s':Int,s' ≤ sk + 300 * nodesT l[k] - 1→s' ≤ 300 * nodesL (n + 1) (l.take (k + 1)) - ((k:Int) + 1):=fun s' h=>by
    have:=hbd.out;have e:nodesL (n + 1) (l.take (k + 1)) = nodesL (n + 1) (l.take k) + nodesT l[k]:=by
     rw [List.take_succ_eq_append_getElem hlt];unfold nodesL nodesT;simp only [List.map_append,List.map_cons,List.map_nil,List.sum_append,List.sum_cons,List.sum_nil];omega
    rw [e];omega
   have HNB:=Lib.hid hnb;clear hnb hsnoc hnm hnd hMk;obtain ⟨x0,x1,x2,x3,x4,x5,x6,x7,x8⟩:=hC1;have HNO:=Lib.hid (formed_no hlt);have HYES:Hid (formedT l[k] = true→∀ j,(h:j < l.length)→j < k + 1→formedT l[j] = true):=Lib.hid (fun h j hj hjk=>by
    by_cases e:j = k
    ·subst e;exact h
    ·exact hall.out j hj (by omega))
   have HCl:=Lib.hid hCl;clear hCl hI1;unfold aggV MPost at HCl;generalize l[k] = x at *;generalize x.items.length = xl at *;generalize x.f = xf at *;go_wp2_with fail;refine (HCl.out _ ((Below.refl _ _).alloc (Nat.le_refl _) _)).mono ?_;rintro e w2 ⟨rfl,s2,m1,m2,m3,m4,m5⟩;have HM2:=Lib.hid m1;have hT2:TouchB (fun k=>k = g) W w2:=(hT.alloc _).trans m2 (fun _ _ e=>e);have b2:=HNB.out s2 m4
   by_cases hf:formedT x = true
   ·have h5:=Lib.hid (m5 hf);have hY:=HYES.out hf;have HY:=Lib.hid hY;have B2:=Lib.hid b2;clear hY b2 m1 m4 m5 HNB;rw [hf];go_wp2_with fail;go_roundw
    case rel =>
     refine ⟨k + 1,s2,by go_num,by omega,HM2,hT2,m3,Lib.hid ?_,HY,Lib.hid ?_⟩
     ·rw [HSN.out,h5.out,hw.out]
     ·have:=B2.out;push_cast;omega
    case measure=>simp [intOf];omega
   ·have hf:formedT x = false:=by simpa using hf
    have hN:=Lib.hid (HNO.out hf);rw [hf];clear b2 m1 m4 m5 HNB;go_wp2_with fail;go_ret2
    exact ⟨0,(by rw [hN.out];try rfl),(fun h=>by rw [hN.out] at h;cases h),by omega,hbW.trans (hT2.below (fun k e=>by subst e;exact hgB) hbW.size)⟩
  ·have hfin:formedL (n + 1) l = true:=formed_yes (fun j hj=>hall.out j hj (by omega));have HF:=Lib.hid hfin;have e:k = l.length:=by omega
   have hw':sk = wholeL (n + 1) l:=by have:=hw.out;rwa [List.take_of_length_le (by omega)] at this
   have HW:=Lib.hid hw';have hms:=hMk.out.size;clear hfin e hw';go_wp2_with fail;go_ret2
   exact ⟨sk,(by rw [HF.out];try rfl),fun _=>HW.out,hsk,hTb⟩
theorem oneL {n:Nat} (t:Tm (n + 1)):formedL (n + 1) [t] = formedT t∧wholeL (n + 1) [t] = wholeT t∧nodesL (n + 1) [t] = nodesT t:=by
 refine ⟨?_,?_,?_⟩
 ·unfold formedL;simp [formedT]
 ·unfold wholeL;simp [wholeT]
 ·unfold nodesL;simp [nodesT]
noncomputable def checkT {n:Nat} (t:Tm (n + 1)):Int:=if formedT t = true then (if wholeT t ≤ 2000 then 0 else 3) else 2
noncomputable def validT {n:Nat} (t:Tm (n + 1)):Bool:=formedT t && decide (wholeT t ≤ 2000)
theorem Check {n:Nat} (ho:OfS n) (w:World) (B:Nat) (v:Value) (t:Tm (n + 1)) (hB:B ≤ w.heap.size) (hI:ItemsAt w B n v t.items) (hss:300 * (nodesT t:Int) ≤ 1000000000000) :
 Calls Tryz.prog 139 #[aggV t.f v] w fun e w'=>e = .returned (.int .i64 (checkT t))∧Below w.heap.size w w':=by
 obtain ⟨p,c,rfl,_,hc⟩:=hI.shape;obtain ⟨e1,e2,e3⟩:=oneL t;have hrow:∀ W:World,Below w.heap.size w W→∀ g,W.heap[g]? = some (cells9 t.f (.slice p t.items.length c))→g < W.heap.size→ItemsAt W W.heap.size (n + 1) (.slice (some ⟨g,0,none⟩) 1 1) [t]:=fun W hb g hg hgl=>by
  refine ⟨_,1,rfl,Nat.le_refl _,by unfold maxLen;omega,fun _=>⟨g,0,rfl,hgl,fun j hj=>?_⟩⟩;obtain rfl:j = 0:=by simp at hj;omega
  have hN:=nine_of hg;exact ⟨_,⟨hN.c0,hN.c1,hN.c2,hN.c3,hN.c4,hN.c5,hN.c6,hN.c7,hN.c8⟩,(hI.below hb hB).more (Nat.le_trans hB hb.size)⟩
 have hS:=fun (W:World) (hb:Below w.heap.size w W) (g:Nat) (hg:W.heap[g]? = some (cells9 t.f (.slice p t.items.length c))) (hgl:g < W.heap.size)=>sumS ho W W.heap.size _ [t] (Nat.le_refl _) (hrow W hb g hg hgl) (by rw [e3];exact hss);unfold SPost at hS;rw [e1,e2] at hS;unfold checkT;have HSS:=Lib.hid hS;clear hS hrow hI hss e1 e2 e3;generalize formedT t = ok at *;generalize wholeT t = W at *;generalize t.f = f at *;generalize t.items.length = len at *;obtain ⟨k,i,gg,nm,fn,ar,by_,bt⟩:=f;unfold aggV cells9 at *;dsimp only at *
 generalize hck:(if ok = true then (if W ≤ 2000 then (0:Int) else 3) else 2) = ck at *;have HCK:=Lib.hid hck;clear hck;go_enter Tryz.func139,Tryz.ntmps139;go_wp2_with fail;have hA:=(MapKept.heap_alloc (w.alloc (.cells #[.int .i64 k,.int .i64 i,.int .i64 gg,.string nm,.string fn,.int .i64 ar,.slice p len c,.string by_,.int .i64 bt] 38)) (.cells #[.int .i64 k,.int .i64 i,.int .i64 gg,.string nm,.string fn,.int .i64 ar,.slice p len c,.string by_,.int .i64 bt] 38)).1
 have hbA:=((Below.refl w.heap.size w).alloc (Nat.le_refl _) (.cells #[.int .i64 k,.int .i64 i,.int .i64 gg,.string nm,.string fn,.int .i64 ar,.slice p len c,.string by_,.int .i64 bt] 38)).alloc (by simp) (.cells #[.int .i64 k,.int .i64 i,.int .i64 gg,.string nm,.string fn,.int .i64 ar,.slice p len c,.string by_,.int .i64 bt] 38);refine (HSS.out _ hbA (w.heap.size + 1) (by simpa using hA) (by simp)).mono ?_;clear hA HSS;rintro e w1 ⟨r,rfl,h1,h2,h3⟩;have hb:=hbA.trans (h3.mono (by simp;omega));clear h3 hbA
 by_cases hok:ok = true
 ·subst hok;obtain rfl:=h1 rfl
  by_cases hw:r ≤ 2000
  ·have q:decide (2000 < r) = false:=decide_eq_false (by omega);obtain rfl:0 = ck:=by have:=HCK.out;rwa [if_pos rfl,if_pos hw] at this
   clear hw h1;go_wp2_with fail;go_ret;exact ⟨rfl,hb⟩
  ·have q:decide (2000 < r) = true:=decide_eq_true (by omega);obtain rfl:3 = ck:=by have:=HCK.out;rwa [if_pos rfl,if_neg hw] at this
   clear hw h1;go_wp2_with fail;go_ret;exact ⟨rfl,hb⟩
 ·have hok:ok = false:=by simpa using hok
  subst hok;obtain rfl:2 = ck:=by have:=HCK.out;rwa [if_neg (by decide)] at this
  clear h1;go_wp2_with fail;go_ret;exact ⟨rfl,hb⟩
theorem checkT_0 {n:Nat} (t:Tm (n + 1)):(checkT t == 0) = validT t:=by
 unfold checkT validT
 by_cases h:formedT t = true
 ·rw [if_pos h,h]
  by_cases h2:wholeT t ≤ 2000
  ·rw [if_pos h2,decide_eq_true h2];rfl
  ·rw [if_neg h2,decide_eq_false h2];rfl
 ·rw [if_neg h];have h:formedT t = false:=by simpa using h
  rw [h];rfl
theorem ValidTm {n:Nat} (ho:OfS n) (w:World) (B:Nat) (v:Value) (t:Tm (n + 1)) (hB:B ≤ w.heap.size) (hI:ItemsAt w B n v t.items) (hss:300 * (nodesT t:Int) ≤ 1000000000000) :
 Calls Tryz.prog 67 #[aggV t.f v] w (BPost (validT t) w):=by
 obtain ⟨p,c,rfl,_,hc⟩:=hI.shape;have hC:=fun (W:World) (hb:Below w.heap.size w W)=>Check ho W B _ t (Nat.le_trans hB hb.size) (hI.below hb hB) hss;have hv:=checkT_0 t;have HC:=Lib.hid hC;clear hC hI hss;generalize checkT t = ck at *;generalize validT t = vt at *;generalize t.f = f at *;generalize t.items.length = len at *;obtain ⟨k,i,gg,nm,fn,ar,by_,bt⟩:=f;unfold aggV at *;dsimp only at *;go_enter Tryz.func67,Tryz.ntmps67;go_wp2_with fail;refine (HC.out _ ((Below.refl _ _).alloc (Nat.le_refl _) _)).mono ?_;rintro e w1 ⟨rfl,hb⟩;go_wp2_with fail;go_ret
 exact ⟨rfl,((Below.refl w.heap.size w).alloc (Nat.le_refl _) _).trans (hb.mono (by simp))⟩
end Go.Proofs.YtpnlnbolhkcnjaaGreat.tm
