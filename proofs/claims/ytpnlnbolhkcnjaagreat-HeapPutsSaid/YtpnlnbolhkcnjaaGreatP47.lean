/- TnN,HsB. No condition beyond theirs. -/
import Derived.Test.YtpnlnbolhkcnjaaGreatP46
import Derived.Test.YtpnlnbolhkcnjaaGreatP41
set_option linter.unusedSimpArgs false
set_option linter.unusedVariables false
set_option maxHeartbeats 4000000
set_option maxRecDepth 100000
namespace Go.Proofs.YtpnlnbolhkcnjaaGreat
namespace tm
open Go.RowKit mem names
def KeptS (n:Nat):Prop:=∀ (w:World) (B:Nat) (F:Nat→Prop) (v0 v:Value) (t:Tm (n + 1)),B ≤ w.heap.size→(∀ g,F g→g < w.heap.size)→LentIn w B F n v0 v t.items→Calls Tryz.prog 33 #[aggV t.f v,aggV t.f v0] w (BPost true w)
def KeptLS (n:Nat):Prop:=∀ (w:World) (B:Nat) (F:Nat→Prop) (v0 v:Value) (l:List (Tm n)),B ≤ w.heap.size→(∀ g,F g→g < w.heap.size)→LentIn w B F n v0 v l→Calls Tryz.prog 90 #[v,v0] w (BPost true w)
theorem sameBare (f:TF) (w:World):Calls Tryz.prog 38 #[aggV f (.slice none 0 0),aggV f (.slice none 0 0)] w (BPost true w):=by
 have h:=sameOne (n:=0) w 0 (.slice none 0 0) (.slice none 0 0) (Tm.mk f []) (Tm.mk f []) (Nat.zero_le _) ⟨none,0,rfl,Nat.zero_le _⟩ ⟨none,0,rfl,Nat.zero_le _⟩;rw [eqB_t rfl] at h;exact h
theorem keptF (x:TF) (p1 p2:Option Addr) (m1 c1 m2 c2:Nat) (w:World) (hK:∀ W,Below w.heap.size w W→Calls Tryz.prog 90 #[.slice p1 m1 c1,.slice p2 m2 c2] W (BPost true W)) :
 Calls Tryz.prog 33 #[aggV x (.slice p1 m1 c1),aggV x (.slice p2 m2 c2)] w (BPost true w):=by
 have HK:=Lib.hid hK;have HS:=Lib.hid (fun W=>sameBare x W);clear hK;obtain ⟨k1,i1,g1,n1,fn1,a1,by1,s1⟩:=x;unfold aggV BPost at *;dsimp only at *;go_enter Tryz.func33,Tryz.ntmps33;go_wp2_with fail;obtain ⟨hN1,hN2,hbw,hsz⟩:=boxes2 w ⟨k1,i1,g1,n1,fn1,a1,by1,s1⟩ ⟨k1,i1,g1,n1,fn1,a1,by1,s1⟩ (.slice p1 m1 c1) (.slice p2 m2 c2);unfold cells9 at hN1 hN2 hbw hsz;dsimp only at hN1 hN2 hbw hsz
 generalize ((w.alloc (.cells #[.int .i64 k1,.int .i64 i1,.int .i64 g1,.string n1,.string fn1,.int .i64 a1,.slice p1 m1 c1,.string by1,.int .i64 s1] 38)).alloc (.cells #[.int .i64 k1,.int .i64 i1,.int .i64 g1,.string n1,.string fn1,.int .i64 a1,.slice p2 m2 c2,.string by1,.int .i64 s1] 38)) = W0 at *;have HZ1:Hid (w.heap.size < W0.heap.size):=Lib.hid (by omega);have HZ2:Hid (w.heap.size + 1 < W0.heap.size):=Lib.hid (by omega);clear hsz;have HN1:=Lib.hid hN1;have HN2:=Lib.hid hN2;clear hN1 hN2;obtain ⟨x0,x1,x2,x3,x4,x5,x6,x7,x8,xz⟩:=HN1.out;obtain ⟨y0,y1,y2,y3,y4,y5,y6,y7,y8,yz⟩:=HN2.out
 dsimp only at x0 x1 x2 x3 x4 x5 x6 x7 x8 y0 y1 y2 y3 y4 y5 y6 y7 y8;go_quiet (fail)
 have hb1:Below w.heap.size w (W0.drewN nq):=hbw.drewN nq;have HZ1:Hid (w.heap.size < (W0.drewN nq).heap.size):=Lib.hid HZ1.out;have HZ2:Hid (w.heap.size + 1 < (W0.drewN nq).heap.size):=Lib.hid HZ2.out;have hN1:Nine (W0.drewN nq) w.heap.size ⟨k1,i1,g1,n1,fn1,a1,by1,s1⟩ (.slice p1 m1 c1):=⟨HN1.out.c0,HN1.out.c1,HN1.out.c2,HN1.out.c3,HN1.out.c4,HN1.out.c5,HN1.out.c6,HN1.out.c7,HN1.out.c8,HN1.out.fz⟩
 have hN2:Nine (W0.drewN nq) (w.heap.size + 1) ⟨k1,i1,g1,n1,fn1,a1,by1,s1⟩ (.slice p2 m2 c2):=⟨HN2.out.c0,HN2.out.c1,HN2.out.c2,HN2.out.c3,HN2.out.c4,HN2.out.c5,HN2.out.c6,HN2.out.c7,HN2.out.c8,HN2.out.fz⟩;clear x0 x1 x2 x3 x4 x5 x6 x7 x8 xz y0 y1 y2 y3 y4 y5 y6 y7 y8 yz;clear HN1 HN2 hbw;generalize W0.drewN nq = W1 at *;have hz1:=HZ1.out;have hz2:=HZ2.out;obtain ⟨x0,x1,x2,x3,x4,x5,x6,x7,x8,xz⟩:=hN1;obtain ⟨y0,y1,y2,y3,y4,y5,y6,y7,y8,yz⟩:=hN2;dsimp only at x0 x1 x2 x3 x4 x5 x6 x7 x8 y0 y1 y2 y3 y4 y5 y6 y7 y8;go_wp2_with fail
 have hb2:Below w.heap.size w ((W1.setCell ⟨w.heap.size,6,none⟩ (.slice none 0 0)).setCell ⟨w.heap.size + 1,6,none⟩ (.slice none 0 0)):=(hb1.setCell (Nat.le_refl _) _).setCell (by simp) _;refine (HS.out _).mono ?_;rintro e w2 ⟨rfl,hb3⟩;have hb4:=hb2.trans (hb3.mono hb2.size);have HKW:=Lib.hid (HK.out w2 hb4);go_wp2_with fail;refine HKW.out.mono ?_;rintro e w3 ⟨rfl,hb5⟩;go_wp2_with fail;go_ret;exact ⟨rfl,hb4.trans (hb5.mono hb4.size)⟩
theorem keptEl {n:Nat} (ih:∀ m,n = m + 1→KeptS m) (w:World) (B:Nat) (F:Nat→Prop) (a0:Addr) (len c0 g o c:Nat) (l:List (Tm n)) (hB:B ≤ w.heap.size) (hF:∀ g,F g→g < w.heap.size) (h:LentIn w B F n (.slice (some a0) len c0) (.slice (some ⟨g,o,none⟩) len c) l) :
 g < w.heap.size∧len = l.length∧l.length ≤ c0∧c0 ≤ maxLen∧l.length + 2 ≤ c∧c ≤ maxLen∧Spare w g (o + l.length * 9) ∧
 ∀ j,(hj:j < l.length)→∃ g0 o0 x q m d q' d',a0 = ⟨g0,o0,none⟩∧g0 < w.heap.size∧Cells w g (o + j * 9) x (.slice q m d)∧Cells w g0 (o0 + j * 9) x (.slice q' m d')∧∀ W,Below w.heap.size w W→Calls Tryz.prog 33 #[aggV x (.slice q m d),aggV x (.slice q' m d')] W (BPost true W):=by
 cases n with
 | zero =>
  have:=Tm.nil0 l;subst this;obtain ⟨p0,c0',e,h1,h2⟩:=h;simp only [Value.slice.injEq] at e;obtain ⟨rfl,rfl,rfl⟩:=e
  rcases h2 with ⟨h2,_⟩ | ⟨hp,g',o',c',e,h3,h4,h5,h6⟩
  ·cases h2
  ·simp only [Value.slice.injEq,Option.some.injEq,Addr.mk.injEq] at e;obtain ⟨⟨rfl,rfl,_⟩,_,rfl⟩:=e;exact ⟨hF _ h5,rfl,Nat.zero_le _,h1,h3,h4,by simpa using h6,fun j hj=>absurd hj (by simp)⟩
 | succ n =>
  obtain ⟨p0,c0',e,h1,h1',h2⟩:=h;simp only [Value.slice.injEq] at e;obtain ⟨rfl,rfl,rfl⟩:=e
  rcases h2 with ⟨h2,_⟩ | ⟨hp,g',o',c',e,h3,h4,h5,h6,h7⟩
  ·cases h2
  ·simp only [Value.slice.injEq,Option.some.injEq,Addr.mk.injEq] at e;obtain ⟨⟨rfl,rfl,_⟩,_,rfl⟩:=e;refine ⟨hF _ h5,rfl,h1,h1',h3,h4,h6,fun j hj=>?_⟩;obtain ⟨g0,o0,u0,u,e0,hg0,k1,k2,k3⟩:=h7 j hj;simp only [Option.some.injEq] at e0;have hI1:=k3.toIn.toAt hF;obtain ⟨q,d,rfl,_,_⟩:=hI1.shape;have h0:∃ q' d',u0 = .slice q' (l[j]).items.length d':=by
    cases n with
    | zero =>
     obtain ⟨p1,c1,e1,_⟩:=k3;rw [Tm.nil0 (l[j]).items];exact ⟨p1,c1,e1⟩
    | succ n =>
     obtain ⟨p1,c1,e1,_⟩:=k3;exact ⟨p1,c1,e1⟩
   obtain ⟨q',d',rfl⟩:=h0;refine ⟨g0,o0,_,q,_,d,q',d',e0,by omega,k2,k1,fun W hb=>?_⟩;exact ih n rfl W B F _ _ l[j] (Nat.le_trans hB hb.size) (fun g hg=>Nat.lt_of_lt_of_le (hF g hg) hb.size) (k3.mono (fun g hg=>hb.block g (hF g hg)) (fun g hg=>hb.block g (by omega)) (fun _ h=>h))
theorem LentIn.cases {w:World} {B:Nat} {F:Nat→Prop} {n:Nat} {v0 v:Value} {l:List (Tm n)} (h:LentIn w B F n v0 v l):(∃ c0,v0 = .slice none 0 c0∧v = .slice none 0 0)∨(∃ a0 g o c0 c,v0 = .slice (some a0) l.length c0∧v = .slice (some ⟨g,o,none⟩) l.length c):=by
 cases n with
 | zero =>
  rw [Tm.nil0 l] at *;obtain ⟨p0,c0,rfl,h1,h2⟩:=h
  rcases h2 with ⟨rfl,rfl⟩ | ⟨hp,g,o,c,rfl,h3,h4,h5,h6⟩
  ·exact .inl ⟨c0,rfl,rfl⟩
  ·cases p0 with
   | none=>exact absurd rfl hp
   | some a0=>exact .inr ⟨a0,g,o,c0,c,rfl,rfl⟩
 | succ n =>
  obtain ⟨p0,c0,rfl,h1,h1',h2⟩:=h
  rcases h2 with ⟨rfl,rfl,rfl⟩ | ⟨hp,g,o,c,rfl,h3,h4,h5,h6⟩
  ·exact .inl ⟨c0,rfl,rfl⟩
  ·cases p0 with
   | none=>exact absurd rfl hp
   | some a0=>exact .inr ⟨a0,g,o,c0,c,rfl,rfl⟩
theorem keptStep {n:Nat} (ih:∀ m,n = m + 1→KeptS m):KeptLS n:=by
 intro w B F v0 v l hB hF h
 rcases h.cases with ⟨c0,rfl,rfl⟩ | ⟨a0,g,o,c0,c,rfl,rfl⟩
 ·have q22:=fun w=>Lib.run_eql_slice_nil (P:=Tryz.prog) w 36 38 none 0 c0 0 0 Tryz.underlying36;clear h ih hF;go_enter Tryz.func90,Tryz.ntmps90;go_wp2_with fail;go_ret;exact ⟨rfl,Below.refl _ _⟩
 ·obtain ⟨hg,_,k1,k2,k3,k4,k5,hEl⟩:=keptEl ih w B F a0 l.length c0 g o c l hB hF h;have q22:=fun w=>Lib.run_eql_slice_nil (P:=Tryz.prog) w 36 38 (some a0) l.length c0 0 0 Tryz.underlying36;have HEl:=Lib.hid hEl;have hA0:Cells w g (o + l.length * 9) markF nilV:=k5.1;have hB0:Cells w g (o + (l.length + 1) * 9) markF nilV:=(show o + (l.length + 1) * 9 = o + l.length * 9 + 9 by omega) ▸ k5.2;have HA0:=Lib.hid hA0;have HB0:=Lib.hid hB0;unfold maxLen at k2 k4;have hz0:g < w.heap.size:=hg;have r1:(l.length:Int) + 2 ≤ (c:Int):=by omega
  have r2:((l.length + 2:Nat):Int) = (l.length:Int) + 2:=by omega
  have r3:(0:Int) ≤ (l.length:Int):=by omega
  have r4:((l.length:Int) + 2).toNat = l.length + 2:=by omega
  have r5:((l.length:Int) + 1).toNat = l.length + 1:=by omega
  have r6:(l.length:Int) < ((l.length + 2:Nat):Int):=by omega
  have r7:(l.length:Int) + 1 < ((l.length + 2:Nat):Int):=by omega
  have r8:IntKind.i64.wrap ((l.length:Int) + 1) = (l.length:Int) + 1:=IntWalk.i64_in _ (by omega);have r9:(0:Int) ≤ (l.length:Int) + 1:=by omega
  have r10:l.length < l.length + 2:=by omega
  have r11:l.length + 1 < l.length + 2:=by omega
  have r12:(l.length:Int) < (l.length:Int) + 2:=by omega
  have r13:(l.length:Int) + 1 < (l.length:Int) + 2:=by omega
  have HM:=Lib.hid (fun W=>mark41 W);have HS:=Lib.hid (fun W=>sameBare markF W);unfold VPost aggV markF nilV at HM;dsimp only at HM;unfold BPost aggV markF at HS;dsimp only at HS;clear h ih hF hEl k5;obtain ⟨x0,x1,x2,x3,x4,x5,x6,x7,x8⟩:=hA0;obtain ⟨y0,y1,y2,y3,y4,y5,y6,y7,y8⟩:=hB0;dsimp only [markF,nilV] at x0 x1 x2 x3 x4 x5 x6 x7 x8 y0 y1 y2 y3 y4 y5 y6 y7 y8;go_enter Tryz.func90,Tryz.ntmps90;go_wp2_with fail
  go_region_held3 (fun w'=>(w'.cell? ⟨g,o + l.length * 9,none⟩ = some (.int .i64 (-7))∧w'.cell? ⟨g,o + l.length * 9 + 1,none⟩ = some (.int .i64 4711)∧w'.cell? ⟨g,o + l.length * 9 + 1 + 1,none⟩ = some (.int .i64 0)∧w'.cell? ⟨g,o + l.length * 9 + 1 + 1 + 1,none⟩ = some (.string ⟨#[115,112,97,114,101]⟩)∧w'.cell? ⟨g,o + l.length * 9 + 1 + 1 + 1 + 1,none⟩ = some (.string ⟨#[]⟩)∧w'.cell? ⟨g,o + l.length * 9 + 1 + 1 + 1 + 1 + 1,none⟩ = some (.int .i64 0)∧w'.cell? ⟨g,o + l.length * 9 + 1 + 1 + 1 + 1 + 1 + 1,none⟩ = some (.slice none 0 0)∧w'.cell? ⟨g,o + l.length * 9 + 1 + 1 + 1 + 1 + 1 + 1 + 1,none⟩ = some (.string ⟨#[]⟩)∧w'.cell? ⟨g,o + l.length * 9 + 1 + 1 + 1 + 1 + 1 + 1 + 1 + 1,none⟩ = some (.int .i64 0))∧w'.cell? ⟨g,o + (l.length + 1) * 9,none⟩ = some (.int .i64 (-7))∧w'.cell? ⟨g,o + (l.length + 1) * 9 + 1,none⟩ = some (.int .i64 4711)∧w'.cell? ⟨g,o + (l.length + 1) * 9 + 1 + 1,none⟩ = some (.int .i64 0)∧w'.cell? ⟨g,o + (l.length + 1) * 9 + 1 + 1 + 1,none⟩ = some (.string ⟨#[115,112,97,114,101]⟩)∧w'.cell? ⟨g,o + (l.length + 1) * 9 + 1 + 1 + 1 + 1,none⟩ = some (.string ⟨#[]⟩)∧w'.cell? ⟨g,o + (l.length + 1) * 9 + 1 + 1 + 1 + 1 + 1,none⟩ = some (.int .i64 0)∧w'.cell? ⟨g,o + (l.length + 1) * 9 + 1 + 1 + 1 + 1 + 1 + 1,none⟩ = some (.slice none 0 0)∧w'.cell? ⟨g,o + (l.length + 1) * 9 + 1 + 1 + 1 + 1 + 1 + 1 + 1,none⟩ = some (.string ⟨#[]⟩)∧w'.cell? ⟨g,o + (l.length + 1) * 9 + 1 + 1 + 1 + 1 + 1 + 1 + 1 + 1,none⟩ = some (.int .i64 0)) (go_keep)
   (first
     | (go_at_call 158;(with_reducible refine (HM.out w.drew).mono ?_);rintro e w1 ⟨rfl,hb1⟩;have hz1:=Nat.lt_of_lt_of_le hz0 hb1.size;have HA1:=Lib.hid (HA0.out.same (hb1.block g hz0));have HB1:=Lib.hid (HB0.out.same (hb1.block g hz0));obtain ⟨p10,p11,p12,p13,p14,p15,p16,p17,p18⟩:=HA1.out;obtain ⟨q10,q11,q12,q13,q14,q15,q16,q17,q18⟩:=HB1.out;dsimp only [markF,nilV] at p10 p11 p12 p13 p14 p15 p16 p17 p18 q10 q11 q12 q13 q14 q15 q16 q17 q18)
     | (go_at_call 38;(with_reducible refine (HS.out w1).mono ?_);rintro e w2 ⟨rfl,hb2⟩;have hz2:=Nat.lt_of_lt_of_le hz1 hb2.size;have HA2:=Lib.hid (HA1.out.same (hb2.block g hz1));have HB2:=Lib.hid (HB1.out.same (hb2.block g hz1));obtain ⟨p20,p21,p22,p23,p24,p25,p26,p27,p28⟩:=HA2.out;obtain ⟨q20,q21,q22,q23,q24,q25,q26,q27,q28⟩:=HB2.out;dsimp only [markF,nilV] at p20 p21 p22 p23 p24 p25 p26 p27 p28 q20 q21 q22 q23 q24 q25 q26 q27 q28)
     | (go_at_call 158;(with_reducible refine (HM.out w2).mono ?_);rintro e w3 ⟨rfl,hb3⟩;have hz3:=Nat.lt_of_lt_of_le hz2 hb3.size;have HA3:=Lib.hid (HA2.out.same (hb3.block g hz2));have HB3:=Lib.hid (HB2.out.same (hb3.block g hz2));obtain ⟨p30,p31,p32,p33,p34,p35,p36,p37,p38⟩:=HA3.out;obtain ⟨q30,q31,q32,q33,q34,q35,q36,q37,q38⟩:=HB3.out;dsimp only [markF,nilV] at p30 p31 p32 p33 p34 p35 p36 p37 p38 q30 q31 q32 q33 q34 q35 q36 q37 q38)
     | (go_at_call 38;(with_reducible refine (HS.out w3).mono ?_);rintro e w4 ⟨rfl,hb4⟩;have hz4:=Nat.lt_of_lt_of_le hz3 hb4.size;have HA4:=Lib.hid (HA3.out.same (hb4.block g hz3));have HB4:=Lib.hid (HB3.out.same (hb4.block g hz3));obtain ⟨p40,p41,p42,p43,p44,p45,p46,p47,p48⟩:=HA4.out;obtain ⟨q40,q41,q42,q43,q44,q45,q46,q47,q48⟩:=HB4.out;dsimp only [markF,nilV] at p40 p41 p42 p43 p44 p45 p46 p47 p48 q40 q41 q42 q43 q44 q45 q46 q47 q48))
  have hbw1:Below w.heap.size w w1:=((Below.refl _ w).drewN 1).trans hb1;have hbw2:=hbw1.trans (hb2.mono hbw1.size);have hbw3:=hbw2.trans (hb3.mono hbw2.size);have hbw4:=hbw3.trans (hb4.mono hbw3.size)
  clear hb1 hb2 hb3 hb4 hbw1 hbw2 hbw3 HA0 HA1 HA2 HA3 HA4 HB0 HB1 HB2 HB3 HB4 hz1 hz2 hz3 hz4 x0 x1 x2 x3 x4 x5 x6 x7 x8 y0 y1 y2 y3 y4 y5 y6 y7 y8 p10 p11 p12 p13 p14 p15 p16 p17 p18 p20 p21 p22 p23 p24 p25 p26 p27 p28 p30 p31 p32 p33 p34 p35 p36 p37 p38 p40 p41 p42 p43 p44 p45 p46 p47 p48 q10 q11 q12 q13 q14 q15 q16 q17 q18 q20 q21 q22 q23 q24 q25 q26 q27 q28 q30 q31 q32 q33 q34 q35 q36 q37 q38 q40 q41 q42 q43 q44 q45 q46 q47 q48;have HBW4:=Lib.hid hbw4;clear hbw4;go_wp2_with fail
  go_loopw [6] (fun s wr=>∃ k:Nat,s = .int .i64 k∧k ≤ l.length∧Below w.heap.size w wr) (fun s _=>l.length - (intOf s).toNat)
  case atStart=>exact ⟨0,rfl,by omega,HBW4.out⟩
  case round =>
   obtain ⟨k,rfl,hk,hb⟩:=hrel
   by_cases hlt:k < l.length
   ·obtain ⟨g0,o0,x,q,m,d,q',d',rfl,hg0,hC1,hC2,hCall⟩:=HEl.out k hlt;have hC1:=hC1.same (hb.block g hz0);have hC2:=hC2.same (hb.block g0 hg0);obtain ⟨x10,x11,x12,x13,x14,x15,x16,x17,x18⟩:=hC1;obtain ⟨y10,y11,y12,y13,y14,y15,y16,y17,y18⟩:=hC2;have hb':Below w.heap.size w wr.drew:=hb.drewN 1;have HC:=Lib.hid (hCall wr.drew hb');clear hCall;obtain ⟨kk,ii,gg,nm,fn,ar,by_,bt⟩:=x;dsimp only at x10 x11 x12 x13 x14 x15 x16 x17 x18 y10 y11 y12 y13 y14 y15 y16 y17 y18;unfold BPost aggV at HC;dsimp only at HC;have HB':=Lib.hid hb';clear hb';have s1:(k:Int) < (l.length:Int):=by omega
    have s2:(0:Int) ≤ (k:Int):=by omega
    go_wp2_with fail;go_still_tail 8,(by kernel_rfl)
    change wpList _ _ _ _ _ wr.drew;clear x10 x11 x12 x13 x14 x15 x16 x17 x18 y10 y11 y12 y13 y14 y15 y16 y17 y18;generalize wr.drew = w5 at *;go_wp2_with fail;refine HC.out.mono ?_;rintro e w6 ⟨rfl,hb6⟩;have hb7:=HB'.out.trans (hb6.mono HB'.out.size);go_wp2_with fail;go_roundw
    case rel=>exact ⟨k + 1,by go_num,by omega,hb7⟩
    case measure=>simp [intOf];omega
   ·go_wp2_with fail;go_ret;exact ⟨rfl,hb⟩
theorem keptTStep {n:Nat} (hC:KeptLS n):KeptS n:=by
 intro w B F v0 v t hB hF h;have hK:=fun W (hb:Below w.heap.size w W)=>hC W B F v0 v t.items (Nat.le_trans hB hb.size) (fun g hg=>Nat.lt_of_lt_of_le (hF g hg) hb.size) (h.mono (fun g hg=>hb.block g (hF g hg)) (fun g hg=>hb.block g (by omega)) (fun _ h=>h))
 rcases h.cases with ⟨c0,rfl,rfl⟩ | ⟨a0,g,o,c0,c,rfl,rfl⟩
 ·exact keptF t.f none none 0 0 0 c0 w hK
 ·exact keptF t.f _ _ _ c _ c0 w hK
theorem keptLAll:∀ n,KeptLS n
 | 0=>keptStep (fun m h=>by omega)
 | n + 1=>keptStep (fun m h=>by
  obtain rfl:n = m:=by omega
  exact keptTStep (keptLAll n))
theorem keptAll (n:Nat):KeptS n:=keptTStep (keptLAll n)
def set9 (w:World) (b o:Nat) (f:TF) (v:Value):World :=
 ((((((((w.setCell ⟨b,o,none⟩ (.int .i64 f.kind)).setCell ⟨b,o + 1,none⟩ (.int .i64 f.int)).setCell ⟨b,o + 2,none⟩ (.int .i64 f.gen)).setCell ⟨b,o + 3,none⟩ (.string f.name)).setCell ⟨b,o + 4,none⟩ (.string f.func)).setCell ⟨b,o + 5,none⟩ (.int .i64 f.arity)).setCell ⟨b,o + 6,none⟩ v).setCell ⟨b,o + 7,none⟩ (.string f.bytes)).setCell ⟨b,o + 8,none⟩ (.int .i64 f.bits)
theorem set9_touch (w:World) (b o:Nat) (f:TF) (v:Value):TouchB (fun k=>k = b) w (set9 w b o f v):=by
 unfold set9
 repeat' (first | with_reducible exact TouchB.refl _ _ | with_reducible refine TouchB.setCell ?_ _ _ (fun _=>rfl))
def SizeSame (w w':World) (F:Nat→Prop):Prop:=∀ g,F g→∀ cur fz,w.heap[g]? = some (.cells cur 38 fz)→∃ cur',w'.heap[g]? = some (.cells cur' 38 fz)∧cur'.size = cur.size
theorem SizeSame.refl (w:World) (F:Nat→Prop):SizeSame w w F:=fun g hg cur fz h=>⟨cur,h,rfl⟩
theorem SizeSame.trans {a b c:World} {F:Nat→Prop} (h:SizeSame a b F) (k:SizeSame b c F):SizeSame a c F:=fun g hg cur fz h0=>by
 obtain ⟨c1,h1,h2⟩:=h g hg cur fz h0;obtain ⟨c2,h3,h4⟩:=k g hg c1 fz h1;exact ⟨c2,h3,h4.trans h2⟩
def sets9 (cur:Array Value) (o:Nat) (f:TF) (v:Value):Array Value :=
 ((((((((cur.setIfInBounds o (.int .i64 f.kind)).setIfInBounds (o + 1) (.int .i64 f.int)).setIfInBounds (o + 2) (.int .i64 f.gen)).setIfInBounds (o + 3) (.string f.name)).setIfInBounds (o + 4) (.string f.func)).setIfInBounds (o + 5) (.int .i64 f.arity)).setIfInBounds (o + 6) v).setIfInBounds (o + 7) (.string f.bytes)).setIfInBounds (o + 8) (.int .i64 f.bits)
theorem set9_blk {w:World} {g o:Nat} {cur:Array Value} {e:TypeId} {fz:Nat × Nat} (f:TF) (v:Value) (h:w.heap[g]? = some (.cells cur e fz)):(set9 w g o f v).heap[g]? = some (.cells (sets9 cur o f v) e fz):=by
 unfold set9 sets9;exact set_blk (set_blk (set_blk (set_blk (set_blk (set_blk (set_blk (set_blk (set_blk h))))))))
theorem sets9_size (cur:Array Value) (o:Nat) (f:TF) (v:Value):(sets9 cur o f v).size = cur.size:=by unfold sets9;simp
theorem sets9_get (cur:Array Value) (o:Nat) (f:TF) (v:Value) (h:o + 9 ≤ cur.size) (i:Nat) (hi:i < 9):(sets9 cur o f v)[o + i]? = (nineL f v)[i]?:=by
 have:i = 0∨i = 1∨i = 2∨i = 3∨i = 4∨i = 5∨i = 6∨i = 7∨i = 8:=by omega
 unfold sets9 nineL;rcases this with rfl | rfl | rfl | rfl | rfl | rfl | rfl | rfl | rfl <;> simp [Array.getElem?_setIfInBounds] <;> omega
theorem sets9_other (cur:Array Value) (o:Nat) (f:TF) (v:Value) (x:Nat) (h:x < o∨o + 9 ≤ x):(sets9 cur o f v)[x]? = cur[x]?:=by
 unfold sets9
 repeat rw [Array.getElem?_setIfInBounds_ne (by omega)]
theorem cell_of_blk {w:World} {g x:Nat} {cur:Array Value} {e:TypeId} {fz:Nat × Nat} (h:w.heap[g]? = some (.cells cur e fz)):w.cell? ⟨g,x,none⟩ = cur[x]?:=by
 unfold World.cell?;rw [h];rfl
theorem Cells.blk {w:World} {g o:Nat} {cur:Array Value} {e:TypeId} {fz:Nat × Nat} {f:TF} {v:Value} (h:w.heap[g]? = some (.cells cur e fz)) (hc:∀ i,i < 9→cur[o + i]? = (nineL f v)[i]?):Cells w g o f v :=
 Cells.of fun i hi=>(cell_of_blk h).trans (hc i hi)
theorem spoil_set {w:World} {F:Nat→Prop} {g:Nat} {cur:Array Value} {fz:Nat × Nat} (hty:Typed w F) (hg:F g) (hcur:w.heap[g]? = some (.cells cur 38 fz)) (j:Nat) (hj:(j + 1) * 9 ≤ cur.size) (f:TF) :
 Typed (set9 w g (j * 9) f nilV) F∧SizeSame w (set9 w g (j * 9) f nilV) F∧TouchB F w (set9 w g (j * 9) f nilV)∧(set9 w g (j * 9) f nilV).heap.size = w.heap.size:=by
 have ht:TouchB (fun k=>k = g) w (set9 w g (j * 9) f nilV):=set9_touch _ _ _ _ _;have hb:=set9_blk (o:=j * 9) f nilV hcur;have hsz:SizeSame w (set9 w g (j * 9) f nilV) F:=by
  intro g' hg' cur' fz' h'
  by_cases e:g' = g
  ·subst e;rw [hcur] at h';simp only [Option.some.injEq,Obj.cells.injEq,true_and] at h';obtain ⟨rfl,rfl⟩:=h';exact ⟨_,hb,sets9_size _ _ _ _⟩
  ·exact ⟨cur',(ht.block g' (Array.getElem?_eq_some_iff.1 h').1 e).trans h',rfl⟩
 have hptr:∀ g' u,PtrOK w F g' u→PtrOK (set9 w g (j * 9) f nilV) F g' u:=by
  rintro g' u ⟨p,len,c,rfl,h0⟩;refine ⟨p,len,c,rfl,?_⟩
  rcases h0 with h0 | ⟨g2,k,c2,fz2,h1,h2,h3,h4,h5⟩
  ·exact .inl h0
  ·obtain ⟨c3,h6,h7⟩:=hsz g2 h2 c2 fz2 h4;exact .inr ⟨g2,k,c3,fz2,h1,h2,h3,h6,by omega⟩
 refine ⟨?_,hsz,ht.mono (fun i _ e=>e ▸ hg),?_⟩
 ·intro g' hg';obtain ⟨c1,N,h1,h2,h3⟩:=hty g' hg'
  by_cases e:g' = g
  ·subst e;rw [hcur] at h1;simp only [Option.some.injEq,Obj.cells.injEq,true_and] at h1;obtain ⟨rfl,rfl⟩:=h1;refine ⟨_,N,hb,by rw [sets9_size];exact h2,fun q hq=>?_⟩
   by_cases e:q = j
   ·subst e;exact ⟨f,nilV,Cells.blk hb (fun i hi=>sets9_get _ _ _ _ (by omega) i hi),PtrOK.nil⟩
   ·obtain ⟨f',u',hc,hp⟩:=h3 q hq;refine ⟨f',u',Cells.blk hb (fun i hi=>?_),hptr _ _ hp⟩;rw [sets9_other _ _ _ _ _ (by omega),← cell_of_blk hcur];exact hc.all i hi
  ·refine ⟨c1,N,(ht.block g' (Array.getElem?_eq_some_iff.1 h1).1 e).trans h1,h2,fun q hq=>?_⟩;obtain ⟨f',u',hc,hp⟩:=h3 q hq;exact ⟨f',u',hc.same (ht.block g' (Array.getElem?_eq_some_iff.1 h1).1 e),hptr _ _ hp⟩
 ·unfold set9;simp
def spoiltF:TF:=⟨-9, -1,0,⟨#[115,112,111,105,108,116]⟩,⟨#[]⟩,0,⟨#[]⟩,0⟩
def SpInv (F:Nat→Prop) (w wr:World):Prop:=Typed wr F∧SizeSame w wr F∧TouchB F w wr∧wr.heap.size = w.heap.size
theorem frozen_of_blk {w:World} {g x:Nat} {cur:Array Value} {e:TypeId} (h:w.heap[g]? = some (.cells cur e (0,0))):w.frozen? ⟨g,x,none⟩ = false:=by
 unfold World.frozen?;rw [h];simp
theorem sp_elt {F:Nat→Prop} {w wr:World} {g k len i:Nat} {cur:Array Value} {fz:Nat × Nat} (h:SpInv F w wr) (hF:F g) (hcur:w.heap[g]? = some (.cells cur 38 fz)) (hk:(k + len) * 9 ≤ cur.size) (hi:i < len) :
 ∃ f p m c,Cells wr g (k * 9 + i * 9) f (.slice p m c)∧PtrOK wr F g (.slice p m c)∧(∀ x,wr.frozen? ⟨g,x,none⟩ = false) ∧
  (SpInv F w (set9 wr g (k * 9 + i * 9) spoiltF nilV)):=by
 obtain ⟨h1,h2,h3,h4⟩:=h;obtain ⟨cur',hb,hs⟩:=h2 g hF cur fz hcur;obtain ⟨c1,N,h5,h6,h7⟩:=h1 g hF;rw [hb] at h5;simp only [Option.some.injEq,Obj.cells.injEq,true_and] at h5;obtain ⟨rfl,rfl⟩:=h5;obtain ⟨f,u,hc,hp⟩:=h7 (k + i) (by omega);have e:(k + i) * 9 = k * 9 + i * 9:=by omega
 obtain ⟨p,m,c,rfl,hq⟩:=hp;obtain ⟨a1,a2,a3,a4⟩:=spoil_set h1 hF hb (k + i) (by omega) spoiltF;rw [e] at hc a1 a2 a3 a4;exact ⟨f,p,m,c,hc,⟨p,m,c,rfl,hq⟩,fun x=>frozen_of_blk hb,a1,h2.trans a2,h3.trans a3 (fun _ _ h=>h),by omega⟩
theorem SpInv.trans {F:Nat→Prop} {a b c:World} (h:SpInv F a b) (k:SpInv F b c):SpInv F a c :=
 ⟨k.1,h.2.1.trans k.2.1,h.2.2.1.trans k.2.2.1 (fun _ _ h=>h),k.2.2.2.trans h.2.2.2⟩
theorem spoilRow {w:World} {F:Nat→Prop} {g2 q len c:Nat} {c2:Array Value} {fz2:Nat × Nat} (hty:Typed w F) (h2:F g2) (h4:w.heap[g2]? = some (.cells c2 38 fz2)) (h5:(q + len) * 9 ≤ c2.size) (h6:len ≤ maxLen)
 (hC:∀ wr u,SpInv F w wr→PtrOK wr F g2 u→Calls Tryz.prog 91 #[u] wr (fun e w'=>e = .returned (.tuple #[])∧SpInv F wr w')) :
 Calls Tryz.prog 91 #[.slice (some ⟨g2,q * 9,none⟩) len c] w (fun e w'=>e = .returned (.tuple #[])∧SpInv F w w'):=by
 have HI:Hid (SpInv F w w):=Lib.hid ⟨hty,SizeSame.refl _ _,TouchB.refl _ _,rfl⟩;have HE:=Lib.hid (fun wr i (h:SpInv F w wr) (hi:i < len)=>sp_elt h h2 h4 h5 hi);have HC:=Lib.hid hC;unfold maxLen at h6;clear hty hC h2 h4 h5;go_enter Tryz.func91,Tryz.ntmps91;go_wp2_with fail;go_loopw [2] (fun s wr=>∃ i:Nat,s = .int .i64 i∧i ≤ len∧Hid (SpInv F w wr)) (fun s _=>len - (intOf s).toNat)
 case atStart=>exact ⟨0,by go_num,by omega,HI⟩
 case round =>
  obtain ⟨i,rfl,hil,HR⟩:=hrel
  by_cases hlt:i < len
  ·obtain ⟨f,p',m',c',hcs,hpt,hfz,_⟩:=HE.out wr i HR.out hlt;have HCall:=Lib.hid (HC.out wr _ HR.out hpt);obtain ⟨k1,i1,g1,n1,fn1,a1,by1,s1⟩:=f;obtain ⟨x0,x1,x2,x3,x4,x5,x6,x7,x8⟩:=hcs;dsimp only at x0 x1 x2 x3 x4 x5 x6 x7 x8;clear hpt hfz x0 x1 x2 x3 x4 x5 x7 x8;have r1:(i:Int) < (len:Int):=by omega
   go_wp2_with fail;refine HCall.out.mono ?_;rintro e w1 ⟨rfl,hI1⟩;have hS:=HR.out.trans hI1;obtain ⟨f,p2,m2,c2',hcs,_,hfz,hSet⟩:=HE.out w1 i hS hlt;have HSet:=Lib.hid hSet;obtain ⟨k2,i2,g3,n2,fn2,a2,by2,s2⟩:=f;obtain ⟨y0,y1,y2,y3,y4,y5,y6,y7,y8⟩:=hcs;dsimp only at y0 y1 y2 y3 y4 y5 y6 y7 y8;unfold set9 spoiltF at HSet;dsimp only at HSet;clear hI1 hS hSet HCall x6;go_wp2_with fail;go_roundw
   case rel=>exact ⟨i + 1,by go_num,by omega,HSet⟩
   case measure=>simp [intOf];omega
  ·go_wp2_with fail;go_end0
   exact ⟨rfl,HR.out⟩
theorem spoilAll:∀ (k:Nat) (w:World) (F:Nat→Prop) (v:Value) (g:Nat),Typed w F→(∀ x,F x→x < w.heap.size)→PtrOK w F g v→w.heap.size ≤ g + 1 + k→Calls Tryz.prog 91 #[v] w (fun e w'=>e = .returned (.tuple #[])∧SpInv F w w'):=by
 intro k
 induction k with
 | zero =>
  intro w F v g hty hF hp hk;obtain ⟨p,len,c,rfl,h0⟩:=hp;have hl:len = 0:=by
   rcases h0 with h0 | ⟨g2,k,c2,fz2,h1,h2,h3,h4,h5⟩
   ·exact h0
   ·have:=hF g2 h2;omega
  subst hl;have HI:Hid (SpInv F w w):=Lib.hid ⟨hty,SizeSame.refl _ _,TouchB.refl _ _,rfl⟩;clear hty hF hk h0;go_enter Tryz.func91,Tryz.ntmps91;go_wp2_with fail;refine wp_loop_rounds 1 ?_;rw [rounds_succ];go_wp2_with fail;go_end0
  exact ⟨rfl,HI.out⟩
 | succ k ih =>
  intro w F v g hty hF hp hk;obtain ⟨p,len,c,rfl,h0⟩:=hp;have HI:Hid (SpInv F w w):=Lib.hid ⟨hty,SizeSame.refl _ _,TouchB.refl _ _,rfl⟩
  rcases h0 with h0 | ⟨g2,q,c2,fz2,h1,h2,h3,h4,h5,h6⟩
  ·subst h0;clear hty hF hk ih;go_enter Tryz.func91,Tryz.ntmps91;go_wp2_with fail;refine wp_loop_rounds 1 ?_;rw [rounds_succ];go_wp2_with fail;go_end0
   exact ⟨rfl,HI.out⟩
  ·subst h1;exact spoilRow hty h2 h4 h5 h6 (fun wr u h hp=>ih wr F u g2 h.1 (fun x hx=>by have:=hF x hx;have:=h.2.2.2;omega) hp (by have:=h.2.2.2;omega))
theorem left_nodes:∀ (n:Nat) (l:List (Tm n)) (m:Int),0 ≤ leftS n l m→(nodesL n l:Int) ≤ m - leftS n l m:=by
 intro n
 induction n with
 | zero=>intro l m h;rw [Tm.nil0 l] at *;simp [nodesL,leftS]
 | succ n ih =>
  intro l
  induction l with
  | nil=>intro m h;simp [nodesL,leftS]
  | cons t l ihl =>
   intro m h;rw [nodesL_cons];have e:leftS (n + 1) (t :: l) m = leftS (n + 1) l (leftStep (leftS n) m t):=rfl;rw [e] at h ⊢
   by_cases h0:leftStep (leftS n) m t < 0
   ·have:=fold_neg (leftS n) _ h0 l;have e2:leftS (n + 1) l (leftStep (leftS n) m t) = leftStep (leftS n) m t:=this;rw [e2] at h;omega
   ·have k1:=ihl _ h;have k2:(nodesT t:Int) ≤ m - leftStep (leftS n) m t:=by
     unfold leftStep at h0 ⊢
     by_cases hm:m < 0
     ·rw [if_pos hm] at h0;omega
     ·rw [if_neg hm] at h0 ⊢
      by_cases hb:leftB t.f m
      ·rw [if_pos hb] at h0;omega
      ·rw [if_neg hb] at h0 ⊢;have k3:=ih t.items (leftN t.f m) (by omega);have k4:=leftN_bd t.f m (by omega) hb;unfold nodesT;omega
    omega
theorem great_nodes {n:Nat} {l:List (Tm n)} {m:Int} (h:greatS n l m = false):(nodesL n l:Int) ≤ m:=by
 unfold greatS at h;have h':=of_decide_eq_false h;have:=left_nodes n l m (by omega);omega
end tm
namespace hp
open Go.RowKit mem words rec tm
theorem spoil34 {w:World} {F:Nat→Prop} {f:TF} {u:Value} (hty:Typed w F) (hF:∀ x,F x→x < w.heap.size) (hp:PtrOK w F 0 u) :
 Calls Tryz.prog 34 #[aggV f u] w fun e w'=>e = .returned (.tuple #[])∧Typed w' F∧SizeSame w w' F∧TouchB F w w':=by
 have HS:=Lib.hid (fun (W:World) (hW:Below w.heap.size w W)=>spoilAll W.heap.size W F u 0 (hty.same (fun g hg=>hW.block g (hF g hg))) (fun x hx=>Nat.lt_of_lt_of_le (hF x hx) hW.size) (hp.mono (fun g hg=>hW.block g (hF g hg)) (fun _ h=>h)) (by omega));obtain ⟨p,len,c,rfl,_⟩:=hp
 have HE:=Lib.hid (fun (W w':World) (hW:Below w.heap.size w W) (hi:SpInv F W w')=>(show Typed w' F∧SizeSame w w' F∧TouchB F w w' from
  ⟨hi.1,fun g hg cur fz h=>hi.2.1 g hg cur fz ((hW.block g (hF g hg)).trans h),((TouchB.refl F w).ofBelow hW (Nat.le_refl _)).trans hi.2.2.1 (fun _ _ h=>h)⟩))
 obtain ⟨tk,ti,tg,tn,tf,ta,tb,ts⟩:=f;unfold aggV;dsimp only;have hb1:=belowA (Below.refl w.heap.size w) (.cells #[.int .i64 tk,.int .i64 ti,.int .i64 tg,.string tn,.string tf,.int .i64 ta,.slice p len c,.string tb,.int .i64 ts] 38) ;have hz1:=heap_alloc_new w (.cells #[.int .i64 tk,.int .i64 ti,.int .i64 tg,.string tn,.string tf,.int .i64 ta,.slice p len c,.string tb,.int .i64 ts] 38);clear hty hF;go_enter Tryz.func34,Tryz.ntmps34;go_upto_region 1 with (fail)
 generalize w.alloc (.cells #[.int .i64 tk,.int .i64 ti,.int .i64 tg,.string tn,.string tf,.int .i64 ta,.slice p len c,.string tb,.int .i64 ts] 38) = w1 at *;have y6:w1.cell? ⟨w.heap.size,6,none⟩ = some (.slice p len c):=(cell_of_blk hz1).trans rfl;have HB:=Lib.hid hb1;clear hz1 hb1;go_wp2_with fail;refine (HS.out _ HB.out).mono ?_;rintro e w2 ⟨rfl,hi⟩;have HI:=Lib.hid hi;clear hi y6;go_wp2_with fail;go_end0
 exact ⟨rfl,HE.out _ _ HB.out HI.out⟩
end hp
end Go.Proofs.YtpnlnbolhkcnjaaGreat
