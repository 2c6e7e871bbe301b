/- TnM,TnN. No condition beyond theirs. -/
import Derived.Test.YtpnlnbolhkcnjaaGreatK40
set_option linter.unusedSimpArgs false
set_option linter.unusedVariables false
set_option maxHeartbeats 4000000
set_option maxRecDepth 100000
namespace Go.Proofs.YtpnlnbolhkcnjaaGreat.tm
open Go.RowKit mem names
def LentElt (w:World) (B:Nat) (F:Nat→Prop) (p0:Option Addr) (j:Nat):(n:Nat)→Tm n→TF→Value→Prop
 | 0,_,_,_=>False
 | n + 1,t,f,u=>∃ g0 o0 u0,p0 = some ⟨g0,o0,none⟩∧g0 < B∧Cells w g0 (o0 + j * 9) t.f u0∧t.f = f∧LentIn w B F n u0 u t.items
def LentEl {n:Nat} (B:Nat) (p0:Option Addr) (l:List (Tm n)) (w:World) (F:Nat→Prop) (j:Nat) (f:TF) (u:Value):Prop:=(∃ h:j < l.length,LentElt w B F p0 j n l[j] f u)∨(l.length ≤ j∧f = markF∧u = nilV)
theorem LentIn.nil {w:World} {B:Nat} {F:Nat→Prop} {n c0:Nat} (hc:c0 ≤ maxLen):LentIn w B F n (.slice none 0 c0) nilV ([]:List (Tm n)):=by
 cases n with
 | zero=>exact ⟨none,c0,rfl,hc,.inl ⟨rfl,rfl⟩⟩
 | succ n=>exact ⟨none,c0,rfl,Nat.zero_le _,hc,.inl ⟨rfl,rfl,rfl⟩⟩
theorem RowInv.marks {E:World→(Nat→Prop)→Nat→TF→Value→Prop} {w wr:World} {cap k:Nat} {rs:List (TF × Value)} {F:Nat→Prop} (hE:EMono w.heap.size E) (h:RowInv E w wr cap k rs F) {w3 w4:World} (hb:Below wr.heap.size wr w3) (h1:∀ j F w,k ≤ j→E w F j markF nilV)
 (hg:w3.grownBy w4 (some w.heap.size)) (hown:w4.ownsRow w.heap.size 38 9 (.slice (some ⟨w.heap.size,0,none⟩) (k + 2) cap) (k + 2) (flatR rs ++ (nineL markF nilV ++ nineL markF nilV))):RowInv E w w4 cap (k + 2) (rs ++ [(markF,nilV),(markF,nilV)]) F:=by
 have hlt:=h.lt;have hsz:=hb.size;have hs3:∀ g,F g→w3.heap[g]? = wr.heap[g]?:=fun g hg=>hb.block g (h.inr g hg).2;have hs4:∀ g,F g→w4.heap[g]? = wr.heap[g]?:=fun g hF=>(hg.block g (by have:=(h.inr g hF).2;omega) (by have:=(h.inr g hF).1;simp;omega)).trans (hs3 g hF);have hl:=h.len;have hg4:=hg.size
 refine ⟨?_,by simp [hl],fun j hj=>?_,h.typed.same hs4,fun g hF=>?_,?_,by omega⟩
 ·rw [flatR_append];have e:flatR [(markF,nilV),(markF,nilV)] = nineL markF nilV ++ nineL markF nilV:=by simp [flatR]
  rw [e];exact hown
 ·by_cases e:j < rs.length
  ·rw [List.getElem_append_left e];obtain ⟨a1,a2⟩:=h.elt j e;exact ⟨hE _ _ _ _ _ _ _ hs4 (fun g hg'=>(hg.block g (by omega) (by simp;omega)).trans (hb.block g (by omega))) (fun _ h=>h) a1,a2.mono hs4 (fun _ h=>h)⟩
  ·have e2:(rs ++ [(markF,nilV),(markF,nilV)])[j] = (markF,nilV):=by
    rw [List.getElem_append_right (by omega)];rcases (show j = rs.length∨j = rs.length + 1 by simp at hj;omega) with rfl | rfl <;> simp
   rw [e2];exact ⟨h1 j _ _ (by omega),PtrOK.nil⟩
 ·have:=h.inr g hF;omega
 ·have hb1:=h.below.trans (hb.mono (by omega));exact ⟨hg.os.trans hb1.os,hg.tape.trans hb1.tape,hg.output.trans hb1.output,Nat.le_trans hb1.size hg.size,fun q hq=>(hg.block q (by omega) (by simp;omega)).trans (hb1.block q hq)⟩
theorem LentIn.mk {n:Nat} {w:World} {F:Nat→Prop} {B g cap c0:Nat} {a0:Addr} (l:List (Tm n)) (rs:List (TF × Value)) (hl:rs.length = l.length + 2) (hc:l.length + 2 ≤ cap) (hm:cap ≤ maxLen) (hF:F g) (h0:l.length ≤ c0) (h0':c0 ≤ maxLen)
 (h:∀ j,(hj:j < rs.length)→Cells w g (j * 9) rs[j].1 rs[j].2∧LentEl B (some a0) l w F j rs[j].1 rs[j].2):LentIn w B F n (.slice (some a0) l.length c0) (.slice (some ⟨g,0,none⟩) l.length cap) l:=by
 have hsp:Spare w g (l.length * 9):=by
  obtain ⟨a1,a2⟩:=h l.length (by omega);obtain ⟨b1,b2⟩:=h (l.length + 1) (by omega)
  rcases a2 with ⟨h,_⟩ | ⟨_,e1,e2⟩
  ·omega
  rcases b2 with ⟨h,_⟩ | ⟨_,e3,e4⟩
  ·omega
  rw [e1,e2] at a1;rw [e3,e4,Nat.add_mul,Nat.one_mul] at b1;exact ⟨a1,b1⟩
 cases n with
 | zero =>
  have:=Tm.nil0 l;subst this;exact ⟨_,_,rfl,h0',.inr ⟨by simp,g,0,cap,rfl,by simpa using hc,hm,hF,by simpa using hsp⟩⟩
 | succ n =>
  refine ⟨_,_,rfl,h0,h0',.inr ⟨by simp,g,0,cap,rfl,hc,hm,hF,by simpa using hsp,fun j hj=>?_⟩⟩;obtain ⟨h1,h2⟩:=h j (by omega)
  rcases h2 with ⟨_,g0,o0,u0,e0,hg0,hc0,hf,hli⟩ | ⟨h,_⟩
  ·refine ⟨g0,o0,u0,_,e0,hg0,hc0,?_,hli⟩;rw [Nat.zero_add,hf];exact h1
  ·omega
def KeptS (n:Nat):Prop:=∀ (w:World) (B:Nat) (F:Nat→Prop) (v0 v:Value) (t:Tm (n + 1)),B ≤ w.heap.size→(∀ g,F g→g < w.heap.size)→LentIn w B F n v0 v t.items→Calls Tryz.prog 33 #[aggV t.f v,aggV t.f v0] w (BPost true w)
def KeptLS (n:Nat):Prop:=∀ (w:World) (B:Nat) (F:Nat→Prop) (v0 v:Value) (l:List (Tm n)),B ≤ w.heap.size→(∀ g,F g→g < w.heap.size)→LentIn w B F n v0 v l→Calls Tryz.prog 90 #[v,v0] w (BPost true w)
theorem sameBare (f:TF) (w:World):Calls Tryz.prog 38 #[aggV f (.slice none 0 0),aggV f (.slice none 0 0)] w (BPost true w):=by
 have h:=sameOne (n:=0) w 0 (.slice none 0 0) (.slice none 0 0) (Tm.mk f []) (Tm.mk f []) (Nat.zero_le _) ⟨none,0,rfl,Nat.zero_le _⟩ ⟨none,0,rfl,Nat.zero_le _⟩;rw [eqB_t rfl] at h;exact h
theorem keptF (x:TF) (p1 p2:Option Addr) (m1 c1 m2 c2:Nat) (w:World) (hK:∀ W,Below w.heap.size w W→Calls Tryz.prog 90 #[.slice p1 m1 c1,.slice p2 m2 c2] W (BPost true W)) :
 Calls Tryz.prog 33 #[aggV x (.slice p1 m1 c1),aggV x (.slice p2 m2 c2)] w (BPost true w):=by
 have HK:=Lib.hid hK;have HS:=Lib.hid (fun W=>sameBare x W);clear hK;obtain ⟨k1,i1,g1,n1,fn1,a1,by1,s1⟩:=x;unfold aggV BPost at *;dsimp only at *;go_enter Tryz.func33,Tryz.ntmps33;go_wp2_with fail;obtain ⟨hN1,hN2,hbw,hsz⟩:=boxes2 w ⟨k1,i1,g1,n1,fn1,a1,by1,s1⟩ ⟨k1,i1,g1,n1,fn1,a1,by1,s1⟩ (.slice p1 m1 c1) (.slice p2 m2 c2);unfold cells9 at hN1 hN2 hbw hsz;dsimp only at hN1 hN2 hbw hsz
 generalize ((w.alloc (.cells #[.int .i64 k1,.int .i64 i1,.int .i64 g1,.string n1,.string fn1,.int .i64 a1,.slice p1 m1 c1,.string by1,.int .i64 s1] 38)).alloc (.cells #[.int .i64 k1,.int .i64 i1,.int .i64 g1,.string n1,.string fn1,.int .i64 a1,.slice p2 m2 c2,.string by1,.int .i64 s1] 38)) = W0 at *;have HZ1:Hid (w.heap.size < W0.heap.size):=Lib.hid (by omega);have HZ2:Hid (w.heap.size + 1 < W0.heap.size):=Lib.hid (by omega);clear hsz;have HN1:=Lib.hid hN1;have HN2:=Lib.hid hN2;clear hN1 hN2;obtain ⟨x0,x1,x2,x3,x4,x5,x6,x7,x8,xz⟩:=HN1.out;obtain ⟨y0,y1,y2,y3,y4,y5,y6,y7,y8,yz⟩:=HN2.out
 dsimp only at x0 x1 x2 x3 x4 x5 x6 x7 x8 y0 y1 y2 y3 y4 y5 y6 y7 y8;go_quiet (fail)
 have hb1:Below w.heap.size w (W0.drewN nq):=hbw.drewN nq;have HZ1:Hid (w.heap.size < (W0.drewN nq).heap.size):=Lib.hid HZ1.out;have HZ2:Hid (w.heap.size + 1 < (W0.drewN nq).heap.size):=Lib.hid HZ2.out;have hN1:Nine (W0.drewN nq) w.heap.size ⟨k1,i1,g1,n1,fn1,a1,by1,s1⟩ (.slice p1 m1 c1):=⟨HN1.out.c0,HN1.out.c1,HN1.out.c2,HN1.out.c3,HN1.out.c4,HN1.out.c5,HN1.out.c6,HN1.out.c7,HN1.out.c8,HN1.out.fz⟩
 have hN2:Nine (W0.drewN nq) (w.heap.size + 1) ⟨k1,i1,g1,n1,fn1,a1,by1,s1⟩ (.slice p2 m2 c2):=⟨HN2.out.c0,HN2.out.c1,HN2.out.c2,HN2.out.c3,HN2.out.c4,HN2.out.c5,HN2.out.c6,HN2.out.c7,HN2.out.c8,HN2.out.fz⟩;clear x0 x1 x2 x3 x4 x5 x6 x7 x8 xz y0 y1 y2 y3 y4 y5 y6 y7 y8 yz;clear HN1 HN2 hbw;generalize W0.drewN nq = W1 at *;have hz1:=HZ1.out;have hz2:=HZ2.out;obtain ⟨x0,x1,x2,x3,x4,x5,x6,x7,x8,xz⟩:=hN1;obtain ⟨y0,y1,y2,y3,y4,y5,y6,y7,y8,yz⟩:=hN2;dsimp only at x0 x1 x2 x3 x4 x5 x6 x7 x8 y0 y1 y2 y3 y4 y5 y6 y7 y8;go_wp2_with fail
 have hb2:Below w.heap.size w ((W1.setCell ⟨w.heap.size,6,none⟩ (.slice none 0 0)).setCell ⟨w.heap.size + 1,6,none⟩ (.slice none 0 0)):=(hb1.setCell (Nat.le_refl _) _).setCell (by simp) _;refine (HS.out _).mono ?_;rintro e w2 ⟨rfl,hb3⟩;have hb4:=hb2.trans (hb3.mono hb2.size);have HKW:=Lib.hid (HK.out w2 hb4);go_wp2_with fail;refine HKW.out.mono ?_;rintro e w3 ⟨rfl,hb5⟩;go_wp2_with fail;go_ret;exact ⟨rfl,hb4.trans (hb5.mono hb4.size)⟩
theorem keptEl {n:Nat} (ih:∀ m,n = m + 1→KeptS m) (w:World) (B:Nat) (F:Nat→Prop) (a0:Addr) (len c0 g o c:Nat) (l:List (Tm n)) (hB:B ≤ w.heap.size) (hF:∀ g,F g→g < w.heap.size) (h:LentIn w B F n (.slice (some a0) len c0) (.slice (some ⟨g,o,none⟩) len c) l) :
 g < w.heap.size∧len = l.length∧l.length ≤ c0∧c0 ≤ maxLen∧l.length + 2 ≤ c∧c ≤ maxLen∧Spare w g (o + l.length * 9) ∧
 ∀ j,(hj:j < l.length)→∃ g0 o0 x q m d q' d',a0 = ⟨g0,o0,none⟩∧g0 < w.heap.size∧Cells w g (o + j * 9) x (.slice q m d)∧Cells w g0 (o0 + j * 9) x (.slice q' m d')∧∀ W,Below w.heap.size w W→Calls Tryz.prog 33 #[aggV x (.slice q m d),aggV x (.slice q' m d')] W (BPost true W):=by
 cases n with
 | zero =>
  have:=Tm.nil0 l;subst this;obtain ⟨p0,c0',e,h1,h2⟩:=h;simp only [Value.slice.injEq] at e;obtain ⟨rfl,rfl,rfl⟩:=e
  rcases h2 with ⟨h2,_⟩ | ⟨hp,g',o',c',e,h3,h4,h5,h6⟩
  ·cases h2
  ·simp only [Value.slice.injEq,Option.some.injEq,Addr.mk.injEq] at e;obtain ⟨⟨rfl,rfl,_⟩,_,rfl⟩:=e;exact ⟨hF _ h5,rfl,Nat.zero_le _,h1,h3,h4,by simpa using h6,fun j hj=>absurd hj (by simp)⟩
 | succ n =>
  obtain ⟨p0,c0',e,h1,h1',h2⟩:=h;simp only [Value.slice.injEq] at e;obtain ⟨rfl,rfl,rfl⟩:=e
  rcases h2 with ⟨h2,_⟩ | ⟨hp,g',o',c',e,h3,h4,h5,h6,h7⟩
  ·cases h2
  ·simp only [Value.slice.injEq,Option.some.injEq,Addr.mk.injEq] at e;obtain ⟨⟨rfl,rfl,_⟩,_,rfl⟩:=e;refine ⟨hF _ h5,rfl,h1,h1',h3,h4,h6,fun j hj=>?_⟩;obtain ⟨g0,o0,u0,u,e0,hg0,k1,k2,k3⟩:=h7 j hj;simp only [Option.some.injEq] at e0;have hI1:=k3.toIn.toAt hF;obtain ⟨q,d,rfl,_,_⟩:=hI1.shape;have h0:∃ q' d',u0 = .slice q' (l[j]).items.length d':=by
    cases n with
    | zero =>
     obtain ⟨p1,c1,e1,_⟩:=k3;rw [Tm.nil0 (l[j]).items];exact ⟨p1,c1,e1⟩
    | succ n =>
     obtain ⟨p1,c1,e1,_⟩:=k3;exact ⟨p1,c1,e1⟩
   obtain ⟨q',d',rfl⟩:=h0;refine ⟨g0,o0,_,q,_,d,q',d',e0,by omega,k2,k1,fun W hb=>?_⟩;exact ih n rfl W B F _ _ l[j] (Nat.le_trans hB hb.size) (fun g hg=>Nat.lt_of_lt_of_le (hF g hg) hb.size) (k3.mono (fun g hg=>hb.block g (hF g hg)) (fun g hg=>hb.block g (by omega)) (fun _ h=>h))
theorem LentIn.cases {w:World} {B:Nat} {F:Nat→Prop} {n:Nat} {v0 v:Value} {l:List (Tm n)} (h:LentIn w B F n v0 v l):(∃ c0,v0 = .slice none 0 c0∧v = .slice none 0 0)∨(∃ a0 g o c0 c,v0 = .slice (some a0) l.length c0∧v = .slice (some ⟨g,o,none⟩) l.length c):=by
 cases n with
 | zero =>
  rw [Tm.nil0 l] at *;obtain ⟨p0,c0,rfl,h1,h2⟩:=h
  rcases h2 with ⟨rfl,rfl⟩ | ⟨hp,g,o,c,rfl,h3,h4,h5,h6⟩
  ·exact .inl ⟨c0,rfl,rfl⟩
  ·cases p0 with
   | none=>exact absurd rfl hp
   | some a0=>exact .inr ⟨a0,g,o,c0,c,rfl,rfl⟩
 | succ n =>
  obtain ⟨p0,c0,rfl,h1,h1',h2⟩:=h
  rcases h2 with ⟨rfl,rfl,rfl⟩ | ⟨hp,g,o,c,rfl,h3,h4,h5,h6⟩
  ·exact .inl ⟨c0,rfl,rfl⟩
  ·cases p0 with
   | none=>exact absurd rfl hp
   | some a0=>exact .inr ⟨a0,g,o,c0,c,rfl,rfl⟩
theorem keptStep {n:Nat} (ih:∀ m,n = m + 1→KeptS m):KeptLS n:=by
 intro w B F v0 v l hB hF h
 rcases h.cases with ⟨c0,rfl,rfl⟩ | ⟨a0,g,o,c0,c,rfl,rfl⟩
 ·have q22:=fun w=>Lib.run_eql_slice_nil (P:=Tryz.prog) w 36 38 none 0 c0 0 0 Tryz.underlying36;clear h ih hF;go_enter Tryz.func90,Tryz.ntmps90;go_wp2_with fail;go_ret;exact ⟨rfl,Below.refl _ _⟩
 ·obtain ⟨hg,_,k1,k2,k3,k4,k5,hEl⟩:=keptEl ih w B F a0 l.length c0 g o c l hB hF h;have q22:=fun w=>Lib.run_eql_slice_nil (P:=Tryz.prog) w 36 38 (some a0) l.length c0 0 0 Tryz.underlying36;have HEl:=Lib.hid hEl;have hA0:Cells w g (o + l.length * 9) markF nilV:=k5.1;have hB0:Cells w g (o + (l.length + 1) * 9) markF nilV:=(show o + (l.length + 1) * 9 = o + l.length * 9 + 9 by omega) ▸ k5.2;have HA0:=Lib.hid hA0;have HB0:=Lib.hid hB0;unfold maxLen at k2 k4;have hz0:g < w.heap.size:=hg;have r1:(l.length:Int) + 2 ≤ (c:Int):=by omega
  have r2:((l.length + 2:Nat):Int) = (l.length:Int) + 2:=by omega
  have r3:(0:Int) ≤ (l.length:Int):=by omega
  have r4:((l.length:Int) + 2).toNat = l.length + 2:=by omega
  have r5:((l.length:Int) + 1).toNat = l.length + 1:=by omega
  have r6:(l.length:Int) < ((l.length + 2:Nat):Int):=by omega
  have r7:(l.length:Int) + 1 < ((l.length + 2:Nat):Int):=by omega
  have r8:IntKind.i64.wrap ((l.length:Int) + 1) = (l.length:Int) + 1:=IntWalk.i64_in _ (by omega);have r9:(0:Int) ≤ (l.length:Int) + 1:=by omega
  have r10:l.length < l.length + 2:=by omega
  have r11:l.length + 1 < l.length + 2:=by omega
  have r12:(l.length:Int) < (l.length:Int) + 2:=by omega
  have r13:(l.length:Int) + 1 < (l.length:Int) + 2:=by omega
  have HM:=Lib.hid (fun W=>mark41 W);have HS:=Lib.hid (fun W=>sameBare markF W);unfold VPost aggV markF nilV at HM;dsimp only at HM;unfold BPost aggV markF at HS;dsimp only at HS;clear h ih hF hEl k5;obtain ⟨x0,x1,x2,x3,x4,x5,x6,x7,x8⟩:=hA0;obtain ⟨y0,y1,y2,y3,y4,y5,y6,y7,y8⟩:=hB0;dsimp only [markF,nilV] at x0 x1 x2 x3 x4 x5 x6 x7 x8 y0 y1 y2 y3 y4 y5 y6 y7 y8;go_enter Tryz.func90,Tryz.ntmps90;go_wp2_with fail
  go_region_held3 (fun w'=>(w'.cell? ⟨g,o + l.length * 9,none⟩ = some (.int .i64 (-7))∧w'.cell? ⟨g,o + l.length * 9 + 1,none⟩ = some (.int .i64 4711)∧w'.cell? ⟨g,o + l.length * 9 + 1 + 1,none⟩ = some (.int .i64 0)∧w'.cell? ⟨g,o + l.length * 9 + 1 + 1 + 1,none⟩ = some (.string ⟨#[115,112,97,114,101]⟩)∧w'.cell? ⟨g,o + l.length * 9 + 1 + 1 + 1 + 1,none⟩ = some (.string ⟨#[]⟩)∧w'.cell? ⟨g,o + l.length * 9 + 1 + 1 + 1 + 1 + 1,none⟩ = some (.int .i64 0)∧w'.cell? ⟨g,o + l.length * 9 + 1 + 1 + 1 + 1 + 1 + 1,none⟩ = some (.slice none 0 0)∧w'.cell? ⟨g,o + l.length * 9 + 1 + 1 + 1 + 1 + 1 + 1 + 1,none⟩ = some (.string ⟨#[]⟩)∧w'.cell? ⟨g,o + l.length * 9 + 1 + 1 + 1 + 1 + 1 + 1 + 1 + 1,none⟩ = some (.int .i64 0))∧w'.cell? ⟨g,o + (l.length + 1) * 9,none⟩ = some (.int .i64 (-7))∧w'.cell? ⟨g,o + (l.length + 1) * 9 + 1,none⟩ = some (.int .i64 4711)∧w'.cell? ⟨g,o + (l.length + 1) * 9 + 1 + 1,none⟩ = some (.int .i64 0)∧w'.cell? ⟨g,o + (l.length + 1) * 9 + 1 + 1 + 1,none⟩ = some (.string ⟨#[115,112,97,114,101]⟩)∧w'.cell? ⟨g,o + (l.length + 1) * 9 + 1 + 1 + 1 + 1,none⟩ = some (.string ⟨#[]⟩)∧w'.cell? ⟨g,o + (l.length + 1) * 9 + 1 + 1 + 1 + 1 + 1,none⟩ = some (.int .i64 0)∧w'.cell? ⟨g,o + (l.length + 1) * 9 + 1 + 1 + 1 + 1 + 1 + 1,none⟩ = some (.slice none 0 0)∧w'.cell? ⟨g,o + (l.length + 1) * 9 + 1 + 1 + 1 + 1 + 1 + 1 + 1,none⟩ = some (.string ⟨#[]⟩)∧w'.cell? ⟨g,o + (l.length + 1) * 9 + 1 + 1 + 1 + 1 + 1 + 1 + 1 + 1,none⟩ = some (.int .i64 0)) (go_keep)
   (first
     | (go_at_call 158;(with_reducible refine (HM.out w.drew).mono ?_);rintro e w1 ⟨rfl,hb1⟩;have hz1:=Nat.lt_of_lt_of_le hz0 hb1.size;have HA1:=Lib.hid (HA0.out.same (hb1.block g hz0));have HB1:=Lib.hid (HB0.out.same (hb1.block g hz0));obtain ⟨p10,p11,p12,p13,p14,p15,p16,p17,p18⟩:=HA1.out;obtain ⟨q10,q11,q12,q13,q14,q15,q16,q17,q18⟩:=HB1.out;dsimp only [markF,nilV] at p10 p11 p12 p13 p14 p15 p16 p17 p18 q10 q11 q12 q13 q14 q15 q16 q17 q18)
     | (go_at_call 38;(with_reducible refine (HS.out w1).mono ?_);rintro e w2 ⟨rfl,hb2⟩;have hz2:=Nat.lt_of_lt_of_le hz1 hb2.size;have HA2:=Lib.hid (HA1.out.same (hb2.block g hz1));have HB2:=Lib.hid (HB1.out.same (hb2.block g hz1));obtain ⟨p20,p21,p22,p23,p24,p25,p26,p27,p28⟩:=HA2.out;obtain ⟨q20,q21,q22,q23,q24,q25,q26,q27,q28⟩:=HB2.out;dsimp only [markF,nilV] at p20 p21 p22 p23 p24 p25 p26 p27 p28 q20 q21 q22 q23 q24 q25 q26 q27 q28)
     | (go_at_call 158;(with_reducible refine (HM.out w2).mono ?_);rintro e w3 ⟨rfl,hb3⟩;have hz3:=Nat.lt_of_lt_of_le hz2 hb3.size;have HA3:=Lib.hid (HA2.out.same (hb3.block g hz2));have HB3:=Lib.hid (HB2.out.same (hb3.block g hz2));obtain ⟨p30,p31,p32,p33,p34,p35,p36,p37,p38⟩:=HA3.out;obtain ⟨q30,q31,q32,q33,q34,q35,q36,q37,q38⟩:=HB3.out;dsimp only [markF,nilV] at p30 p31 p32 p33 p34 p35 p36 p37 p38 q30 q31 q32 q33 q34 q35 q36 q37 q38)
     | (go_at_call 38;(with_reducible refine (HS.out w3).mono ?_);rintro e w4 ⟨rfl,hb4⟩;have hz4:=Nat.lt_of_lt_of_le hz3 hb4.size;have HA4:=Lib.hid (HA3.out.same (hb4.block g hz3));have HB4:=Lib.hid (HB3.out.same (hb4.block g hz3));obtain ⟨p40,p41,p42,p43,p44,p45,p46,p47,p48⟩:=HA4.out;obtain ⟨q40,q41,q42,q43,q44,q45,q46,q47,q48⟩:=HB4.out;dsimp only [markF,nilV] at p40 p41 p42 p43 p44 p45 p46 p47 p48 q40 q41 q42 q43 q44 q45 q46 q47 q48))
  have hbw1:Below w.heap.size w w1:=((Below.refl _ w).drewN 1).trans hb1;have hbw2:=hbw1.trans (hb2.mono hbw1.size);have hbw3:=hbw2.trans (hb3.mono hbw2.size);have hbw4:=hbw3.trans (hb4.mono hbw3.size)
  clear hb1 hb2 hb3 hb4 hbw1 hbw2 hbw3 HA0 HA1 HA2 HA3 HA4 HB0 HB1 HB2 HB3 HB4 hz1 hz2 hz3 hz4 x0 x1 x2 x3 x4 x5 x6 x7 x8 y0 y1 y2 y3 y4 y5 y6 y7 y8 p10 p11 p12 p13 p14 p15 p16 p17 p18 p20 p21 p22 p23 p24 p25 p26 p27 p28 p30 p31 p32 p33 p34 p35 p36 p37 p38 p40 p41 p42 p43 p44 p45 p46 p47 p48 q10 q11 q12 q13 q14 q15 q16 q17 q18 q20 q21 q22 q23 q24 q25 q26 q27 q28 q30 q31 q32 q33 q34 q35 q36 q37 q38 q40 q41 q42 q43 q44 q45 q46 q47 q48;have HBW4:=Lib.hid hbw4;clear hbw4;go_wp2_with fail
  go_loopw [6] (fun s wr=>∃ k:Nat,s = .int .i64 k∧k ≤ l.length∧Below w.heap.size w wr) (fun s _=>l.length - (intOf s).toNat)
  case atStart=>exact ⟨0,rfl,by omega,HBW4.out⟩
  case round =>
   obtain ⟨k,rfl,hk,hb⟩:=hrel
   by_cases hlt:k < l.length
   ·obtain ⟨g0,o0,x,q,m,d,q',d',rfl,hg0,hC1,hC2,hCall⟩:=HEl.out k hlt;have hC1:=hC1.same (hb.block g hz0);have hC2:=hC2.same (hb.block g0 hg0);obtain ⟨x10,x11,x12,x13,x14,x15,x16,x17,x18⟩:=hC1;obtain ⟨y10,y11,y12,y13,y14,y15,y16,y17,y18⟩:=hC2;have hb':Below w.heap.size w wr.drew:=hb.drewN 1;have HC:=Lib.hid (hCall wr.drew hb');clear hCall;obtain ⟨kk,ii,gg,nm,fn,ar,by_,bt⟩:=x;dsimp only at x10 x11 x12 x13 x14 x15 x16 x17 x18 y10 y11 y12 y13 y14 y15 y16 y17 y18;unfold BPost aggV at HC;dsimp only at HC;have HB':=Lib.hid hb';clear hb';have s1:(k:Int) < (l.length:Int):=by omega
    have s2:(0:Int) ≤ (k:Int):=by omega
    go_wp2_with fail;go_still_tail 8,(by kernel_rfl)
    change wpList _ _ _ _ _ wr.drew;clear x10 x11 x12 x13 x14 x15 x16 x17 x18 y10 y11 y12 y13 y14 y15 y16 y17 y18;generalize wr.drew = w5 at *;go_wp2_with fail;refine HC.out.mono ?_;rintro e w6 ⟨rfl,hb6⟩;have hb7:=HB'.out.trans (hb6.mono HB'.out.size);go_wp2_with fail;go_roundw
    case rel=>exact ⟨k + 1,by go_num,by omega,hb7⟩
    case measure=>simp [intOf];omega
   ·go_wp2_with fail;go_ret;exact ⟨rfl,hb⟩
theorem keptTStep {n:Nat} (hC:KeptLS n):KeptS n:=by
 intro w B F v0 v t hB hF h;have hK:=fun W (hb:Below w.heap.size w W)=>hC W B F v0 v t.items (Nat.le_trans hB hb.size) (fun g hg=>Nat.lt_of_lt_of_le (hF g hg) hb.size) (h.mono (fun g hg=>hb.block g (hF g hg)) (fun g hg=>hb.block g (by omega)) (fun _ h=>h))
 rcases h.cases with ⟨c0,rfl,rfl⟩ | ⟨a0,g,o,c0,c,rfl,rfl⟩
 ·exact keptF t.f none none 0 0 0 c0 w hK
 ·exact keptF t.f _ _ _ c _ c0 w hK
theorem keptLAll:∀ n,KeptLS n
 | 0=>keptStep (fun m h=>by omega)
 | n + 1=>keptStep (fun m h=>by
  obtain rfl:n = m:=by omega
  exact keptTStep (keptLAll n))
theorem keptAll (n:Nat):KeptS n:=keptTStep (keptLAll n)
end Go.Proofs.YtpnlnbolhkcnjaaGreat.tm
