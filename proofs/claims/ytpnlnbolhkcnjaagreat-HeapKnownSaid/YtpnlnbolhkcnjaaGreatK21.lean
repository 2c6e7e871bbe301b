/- TmK2,TmN,HpK. No condition beyond theirs. -/
import Derived.Test.YtpnlnbolhkcnjaaGreatK19
import Derived.Test.YtpnlnbolhkcnjaaGreatK20
import Derived.Test.YtpnlnbolhkcnjaaGreatK10
set_option linter.unusedSimpArgs false
set_option linter.unusedVariables false
set_option maxHeartbeats 4000000
set_option maxRecDepth 100000
namespace Go.Proofs.YtpnlnbolhkcnjaaGreat
namespace tm
open Go.RowKit mem names
set_option maxHeartbeats 40000000 in
theorem ofYes {n:Nat} (hx:ConS n) (w:World) (B g:Nat) (v:Value) (t:Tm (n + 1)) (s:Int) (hB:B ≤ w.heap.size) (hI:ItemsAt w B n v t.items) (hM:Meas w g s) (hg:B ≤ g) (hs:0 ≤ s) (hss:s + 300 * (nodesT t:Int) - 1 ≤ 1000000000000) (h0:0 ≤ t.f.kind) (h1:t.f.kind ≤ 10) :
 Calls Tryz.prog 228 #[.pointer (some ⟨g,0,none⟩),aggV t.f v] w (MPost g s (formedT t) (nodesT t) (wholeT t) w):=by
 obtain ⟨p,c,rfl,hn,hc⟩:=hI.shape;unfold maxLen at hc;have hK:=fun (W:World) (hb:Below w.heap.size w W)=>kindAll t.f _ t.items W B (Nat.le_trans hB hb.size) (hI.below hb hB) h0 h1;have hgl:=hM.lt;unfold KPost at hK;have HM:=Lib.hid hM;have HI:=Lib.hid hI;clear hM hI;generalize hbf:bareF t.f = bf at *;generalize hbv:bareV t.f (.slice p t.items.length c) = bv at *;generalize hok:okF t.f t.items.length (lastK n t.items) = ok at *;obtain ⟨k2,i2,g2,nm2,fn2,ar2,by2,bt2⟩:=bf;obtain ⟨p3,n3,c3,rfl⟩:∃ p3 n3 c3,bv = .slice p3 n3 c3:=by
  unfold bareV nilV at hbv;split at hbv
  ·exact ⟨_,_,_,hbv.symm⟩
  ·exact ⟨_,_,_,hbv.symm⟩
 unfold aggV at *;have HBF:=Lib.hid hbf;clear hbf;have HBV:=Lib.hid hbv;clear hbv;have HOK:=Lib.hid hok;clear hok;obtain ⟨m,hm⟩:∃ m:Nat,t.f.kind = (m:Int):=⟨t.f.kind.toNat,by omega⟩;have hm10:m ≤ 10:=by omega
 have hfn:=HM.out.fn m hm10;generalize hf:t.f = f at *;generalize t.items.length = len at *;obtain ⟨k,i,gg,nm,fn,ar,by_,bt⟩:=f;dsimp only at hm hK h0 h1 ⊢;rw [← hm] at hfn;generalize hfk:fnum k = fk at *;have HFK:=Lib.hid hfk;clear hfk;have Hm:=Lib.hid hm;clear hm;have q1:decide (k < 0) = false:=decide_eq_false (by omega);have q2:decide (11 ≤ k) = false:=decide_eq_false (by omega);have HF:=Lib.hid hf;clear hf;go_enter Tryz.func228,Tryz.ntmps228;go_upto_region 3 with fail
 obtain ⟨W0,hW⟩:∃ x,x = (w.alloc (.cells #[.pointer (some ⟨g,0,none⟩)] 255)).alloc (.cells #[.int .i64 k,.int .i64 i,.int .i64 gg,.string nm,.string fn,.int .i64 ar,.slice p len c,.string by_,.int .i64 bt] 38):=⟨_,rfl⟩;rw [← hW];have hw0:Below w.heap.size w W0:=by rw [hW];exact ((Below.refl _ _).alloc (Nat.le_refl _) _).alloc (by simp) _
 have hsz:W0.heap.size = w.heap.size + 2:=by rw [hW];simp
 obtain ⟨hb0,hb1⟩:=box_two (w:=w) (g:=g) (f:=⟨k,i,gg,nm,fn,ar,by_,bt⟩) (v:=.slice p len c);unfold cells9 at hb0 hb1;dsimp only at hb0 hb1;rw [← hW] at hb0 hb1;clear hW;have hN:Nine W0 (w.heap.size + 1) ⟨k,i,gg,nm,fn,ar,by_,bt⟩ (.slice p len c):=nine_of hb1;have HN:=Lib.hid hN;obtain ⟨a0,a1,a2,a3,a4,a5,a6,a7,a8,az⟩:=hN;dsimp only at a0 a1 a2 a3 a4 a5 a6 a7 a8;have hc0:W0.cell? ⟨w.heap.size,0,none⟩ = some (.pointer (some ⟨g,0,none⟩)):=by simp only [World.cell?,hb0];rfl
 have hfn0:W0.cell? ⟨g,m,none⟩ = some (.func (.func fk) #[] #[]):=(hw0.cell (p:=⟨g,m,none⟩) hgl).trans hfn
 have hS:∀ W1,Below W0.heap.size W0 W1→W1.cell? ⟨w.heap.size,0,none⟩ = some (.pointer (some ⟨g,0,none⟩))∧W1.cell? ⟨g,m,none⟩ = some (.func (.func fk) #[] #[])∧W1.cell? ⟨w.heap.size + 1,0,none⟩ = some (.int .i64 k)∧W1.cell? ⟨w.heap.size + 1,1,none⟩ = some (.int .i64 i)∧W1.cell? ⟨w.heap.size + 1,2,none⟩ = some (.int .i64 gg)∧W1.cell? ⟨w.heap.size + 1,3,none⟩ = some (.string nm)∧W1.cell? ⟨w.heap.size + 1,4,none⟩ = some (.string fn)∧W1.cell? ⟨w.heap.size + 1,5,none⟩ = some (.int .i64 ar)∧W1.cell? ⟨w.heap.size + 1,6,none⟩ = some (.slice p len c)∧W1.cell? ⟨w.heap.size + 1,7,none⟩ = some (.string by_)∧W1.cell? ⟨w.heap.size + 1,8,none⟩ = some (.int .i64 bt):=fun W1 hb=>by
  have e:=fun o=>hb.cell (p:=⟨w.heap.size + 1,o,none⟩) (by simp;omega);exact ⟨(hb.cell (by simp;omega)).trans hc0,(hb.cell (by simp;omega)).trans hfn0,(e _).trans a0,(e _).trans a1,(e _).trans a2,(e _).trans a3,(e _).trans a4,(e _).trans a5,(e _).trans a6,(e _).trans a7,(e _).trans a8⟩
 have HS:=Lib.hid hS;clear hS;clear hb0 hb1 hfn;have HSZ:=Lib.hid hsz;have j1:W0.heap.size ≠ w.heap.size:=by omega
 have j2:W0.heap.size ≠ w.heap.size + 1:=by omega
 have j3:W0.heap.size ≠ g:=by omega
 have j4:g < W0.heap.size:=by omega
 clear hsz;have HK:=Lib.hid hK;clear hK;go_cut [5,6] from 15 to 26 (fun x5 x6 wc=>∃ z,x5 = .pointer (some ⟨z,0,none⟩)∧x6 = .bool ok∧W0.heap.size ≤ z∧z < wc.heap.size∧Nine wc z ⟨k2,i2,g2,nm2,fn2,ar2,by2,bt2⟩ (.slice p3 n3 c3)∧Below W0.heap.size W0 wc)
 case first =>
  rcases (show m = 0∨m = 1∨m = 2∨m = 3∨m = 4∨m = 5∨m = 6∨m = 7∨m = 8∨m = 9∨m = 10 by omega) with rfl | rfl | rfl | rfl | rfl | rfl | rfl | rfl | rfl | rfl | rfl
  ·obtain rfl:k = 0:=by have:=Hm.out;omega
   obtain rfl:256 = fk:=HFK.out;clear q1 q2 Hm
   go_region_held3 (fun w'=>w'.cell? ⟨w.heap.size,0,none⟩ = some (.pointer (some ⟨g,0,none⟩))∧w'.cell? ⟨g,0,none⟩ = some (.func (.func 256) #[] #[])∧w'.cell? ⟨w.heap.size + 1,0,none⟩ = some (.int .i64 0)∧w'.cell? ⟨w.heap.size + 1,1,none⟩ = some (.int .i64 i)∧w'.cell? ⟨w.heap.size + 1,2,none⟩ = some (.int .i64 gg)∧w'.cell? ⟨w.heap.size + 1,3,none⟩ = some (.string nm)∧w'.cell? ⟨w.heap.size + 1,4,none⟩ = some (.string fn)∧w'.cell? ⟨w.heap.size + 1,5,none⟩ = some (.int .i64 ar)∧w'.cell? ⟨w.heap.size + 1,6,none⟩ = some (.slice p len c)∧w'.cell? ⟨w.heap.size + 1,7,none⟩ = some (.string by_)∧w'.cell? ⟨w.heap.size + 1,8,none⟩ = some (.int .i64 bt)) (go_keep) (first
    | (go_at_call 256;refine (HK.out _ (hw0.drewN 1)).mono ?_;rintro e w1 ⟨rfl,hb⟩;have hbw:=((Below.refl W0.heap.size W0).drewN 1).trans hb;clear hb;obtain ⟨s0,s1,s2,s3,s4,s5,s6,s7,s8,s9,s10⟩:=HS.out w1 hbw;have hl:=hbw.size;have hn1:=World.new_ne w1 _ s0;have hn2:=World.new_ne w1 _ s2;have hn3:=World.new_ne w1 _ s1)
    | (go_at_call 256;refine (HK.out _ ((hw0.drewN 1).alloc hw0.size _)).mono ?_;rintro e w1 ⟨rfl,hb⟩;have hbw:=(((Below.refl W0.heap.size W0).drewN 1).alloc (by simp) _).trans (hb.mono (by simp));have HB:=Lib.hid (one_blk W0 w1 hb);have hzz:W0.heap.size < w1.heap.size:=(by have:=hb.size;simp at this;omega);obtain ⟨s0,s1,s2,s3,s4,s5,s6,s7,s8,s9,s10⟩:=HS.out w1 hbw;obtain ⟨y0,y1,y2,y3,y4,y5,y6,y7,y8,yz⟩:=one_box W0 w1 hb;dsimp only [zeroF,nilV] at y0 y1 y2 y3 y4 y5 y6 y7 y8))
   ·go_wp2_with fail;go_meet;exact ⟨_,rfl,rfl,hbw.size,by simp,nine_of (MapKept.heap_alloc w1 (cells9 ⟨k2,i2,g2,nm2,fn2,ar2,by2,bt2⟩ (.slice p3 n3 c3))).1,hbw.alloc hbw.size _⟩
   ·go_wp2_with fail;go_meet;exact ⟨_,rfl,rfl,Nat.le_refl _,by simpa using hzz,nine_sets ⟨k2,i2,g2,nm2,fn2,ar2,by2,bt2⟩ _ HB.out,by (repeat' (first | with_reducible exact hbw | with_reducible exact Nat.le_refl _ | with_reducible refine Below.setCell ?_ ?_ _))⟩
  ·obtain rfl:k = 1:=by have:=Hm.out;omega
   obtain rfl:257 = fk:=HFK.out;clear q1 q2 Hm
   go_region_held3 (fun w'=>w'.cell? ⟨w.heap.size,0,none⟩ = some (.pointer (some ⟨g,0,none⟩))∧w'.cell? ⟨g,1,none⟩ = some (.func (.func 257) #[] #[])∧w'.cell? ⟨w.heap.size + 1,0,none⟩ = some (.int .i64 1)∧w'.cell? ⟨w.heap.size + 1,1,none⟩ = some (.int .i64 i)∧w'.cell? ⟨w.heap.size + 1,2,none⟩ = some (.int .i64 gg)∧w'.cell? ⟨w.heap.size + 1,3,none⟩ = some (.string nm)∧w'.cell? ⟨w.heap.size + 1,4,none⟩ = some (.string fn)∧w'.cell? ⟨w.heap.size + 1,5,none⟩ = some (.int .i64 ar)∧w'.cell? ⟨w.heap.size + 1,6,none⟩ = some (.slice p len c)∧w'.cell? ⟨w.heap.size + 1,7,none⟩ = some (.string by_)∧w'.cell? ⟨w.heap.size + 1,8,none⟩ = some (.int .i64 bt)) (go_keep) (first
    | (go_at_call 257;refine (HK.out _ (hw0.drewN 1)).mono ?_;rintro e w1 ⟨rfl,hb⟩;have hbw:=((Below.refl W0.heap.size W0).drewN 1).trans hb;clear hb;obtain ⟨s0,s1,s2,s3,s4,s5,s6,s7,s8,s9,s10⟩:=HS.out w1 hbw;have hl:=hbw.size;have hn1:=World.new_ne w1 _ s0;have hn2:=World.new_ne w1 _ s2;have hn3:=World.new_ne w1 _ s1)
    | (go_at_call 257;refine (HK.out _ ((hw0.drewN 1).alloc hw0.size _)).mono ?_;rintro e w1 ⟨rfl,hb⟩;have hbw:=(((Below.refl W0.heap.size W0).drewN 1).alloc (by simp) _).trans (hb.mono (by simp));have HB:=Lib.hid (one_blk W0 w1 hb);have hzz:W0.heap.size < w1.heap.size:=(by have:=hb.size;simp at this;omega);obtain ⟨s0,s1,s2,s3,s4,s5,s6,s7,s8,s9,s10⟩:=HS.out w1 hbw;obtain ⟨y0,y1,y2,y3,y4,y5,y6,y7,y8,yz⟩:=one_box W0 w1 hb;dsimp only [zeroF,nilV] at y0 y1 y2 y3 y4 y5 y6 y7 y8))
   ·go_wp2_with fail;go_meet;exact ⟨_,rfl,rfl,hbw.size,by simp,nine_of (MapKept.heap_alloc w1 (cells9 ⟨k2,i2,g2,nm2,fn2,ar2,by2,bt2⟩ (.slice p3 n3 c3))).1,hbw.alloc hbw.size _⟩
   ·go_wp2_with fail;go_meet;exact ⟨_,rfl,rfl,Nat.le_refl _,by simpa using hzz,nine_sets ⟨k2,i2,g2,nm2,fn2,ar2,by2,bt2⟩ _ HB.out,by (repeat' (first | with_reducible exact hbw | with_reducible exact Nat.le_refl _ | with_reducible refine Below.setCell ?_ ?_ _))⟩
  ·obtain rfl:k = 2:=by have:=Hm.out;omega
   obtain rfl:258 = fk:=HFK.out;clear q1 q2 Hm
   go_region_held3 (fun w'=>w'.cell? ⟨w.heap.size,0,none⟩ = some (.pointer (some ⟨g,0,none⟩))∧w'.cell? ⟨g,2,none⟩ = some (.func (.func 258) #[] #[])∧w'.cell? ⟨w.heap.size + 1,0,none⟩ = some (.int .i64 2)∧w'.cell? ⟨w.heap.size + 1,1,none⟩ = some (.int .i64 i)∧w'.cell? ⟨w.heap.size + 1,2,none⟩ = some (.int .i64 gg)∧w'.cell? ⟨w.heap.size + 1,3,none⟩ = some (.string nm)∧w'.cell? ⟨w.heap.size + 1,4,none⟩ = some (.string fn)∧w'.cell? ⟨w.heap.size + 1,5,none⟩ = some (.int .i64 ar)∧w'.cell? ⟨w.heap.size + 1,6,none⟩ = some (.slice p len c)∧w'.cell? ⟨w.heap.size + 1,7,none⟩ = some (.string by_)∧w'.cell? ⟨w.heap.size + 1,8,none⟩ = some (.int .i64 bt)) (go_keep) (first
    | (go_at_call 258;refine (HK.out _ (hw0.drewN 1)).mono ?_;rintro e w1 ⟨rfl,hb⟩;have hbw:=((Below.refl W0.heap.size W0).drewN 1).trans hb;clear hb;obtain ⟨s0,s1,s2,s3,s4,s5,s6,s7,s8,s9,s10⟩:=HS.out w1 hbw;have hl:=hbw.size;have hn1:=World.new_ne w1 _ s0;have hn2:=World.new_ne w1 _ s2;have hn3:=World.new_ne w1 _ s1)
    | (go_at_call 258;refine (HK.out _ ((hw0.drewN 1).alloc hw0.size _)).mono ?_;rintro e w1 ⟨rfl,hb⟩;have hbw:=(((Below.refl W0.heap.size W0).drewN 1).alloc (by simp) _).trans (hb.mono (by simp));have HB:=Lib.hid (one_blk W0 w1 hb);have hzz:W0.heap.size < w1.heap.size:=(by have:=hb.size;simp at this;omega);obtain ⟨s0,s1,s2,s3,s4,s5,s6,s7,s8,s9,s10⟩:=HS.out w1 hbw;obtain ⟨y0,y1,y2,y3,y4,y5,y6,y7,y8,yz⟩:=one_box W0 w1 hb;dsimp only [zeroF,nilV] at y0 y1 y2 y3 y4 y5 y6 y7 y8))
   ·go_wp2_with fail;go_meet;exact ⟨_,rfl,rfl,hbw.size,by simp,nine_of (MapKept.heap_alloc w1 (cells9 ⟨k2,i2,g2,nm2,fn2,ar2,by2,bt2⟩ (.slice p3 n3 c3))).1,hbw.alloc hbw.size _⟩
   ·go_wp2_with fail;go_meet;exact ⟨_,rfl,rfl,Nat.le_refl _,by simpa using hzz,nine_sets ⟨k2,i2,g2,nm2,fn2,ar2,by2,bt2⟩ _ HB.out,by (repeat' (first | with_reducible exact hbw | with_reducible exact Nat.le_refl _ | with_reducible refine Below.setCell ?_ ?_ _))⟩
  ·obtain rfl:k = 3:=by have:=Hm.out;omega
   obtain rfl:254 = fk:=HFK.out;clear q1 q2 Hm
   go_region_held3 (fun w'=>w'.cell? ⟨w.heap.size,0,none⟩ = some (.pointer (some ⟨g,0,none⟩))∧w'.cell? ⟨g,3,none⟩ = some (.func (.func 254) #[] #[])∧w'.cell? ⟨w.heap.size + 1,0,none⟩ = some (.int .i64 3)∧w'.cell? ⟨w.heap.size + 1,1,none⟩ = some (.int .i64 i)∧w'.cell? ⟨w.heap.size + 1,2,none⟩ = some (.int .i64 gg)∧w'.cell? ⟨w.heap.size + 1,3,none⟩ = some (.string nm)∧w'.cell? ⟨w.heap.size + 1,4,none⟩ = some (.string fn)∧w'.cell? ⟨w.heap.size + 1,5,none⟩ = some (.int .i64 ar)∧w'.cell? ⟨w.heap.size + 1,6,none⟩ = some (.slice p len c)∧w'.cell? ⟨w.heap.size + 1,7,none⟩ = some (.string by_)∧w'.cell? ⟨w.heap.size + 1,8,none⟩ = some (.int .i64 bt)) (go_keep) (first
    | (go_at_call 254;refine (HK.out _ (hw0.drewN 1)).mono ?_;rintro e w1 ⟨rfl,hb⟩;have hbw:=((Below.refl W0.heap.size W0).drewN 1).trans hb;clear hb;obtain ⟨s0,s1,s2,s3,s4,s5,s6,s7,s8,s9,s10⟩:=HS.out w1 hbw;have hl:=hbw.size;have hn1:=World.new_ne w1 _ s0;have hn2:=World.new_ne w1 _ s2;have hn3:=World.new_ne w1 _ s1)
    | (go_at_call 254;refine (HK.out _ ((hw0.drewN 1).alloc hw0.size _)).mono ?_;rintro e w1 ⟨rfl,hb⟩;have hbw:=(((Below.refl W0.heap.size W0).drewN 1).alloc (by simp) _).trans (hb.mono (by simp));have HB:=Lib.hid (one_blk W0 w1 hb);have hzz:W0.heap.size < w1.heap.size:=(by have:=hb.size;simp at this;omega);obtain ⟨s0,s1,s2,s3,s4,s5,s6,s7,s8,s9,s10⟩:=HS.out w1 hbw;obtain ⟨y0,y1,y2,y3,y4,y5,y6,y7,y8,yz⟩:=one_box W0 w1 hb;dsimp only [zeroF,nilV] at y0 y1 y2 y3 y4 y5 y6 y7 y8))
   ·go_wp2_with fail;go_meet;exact ⟨_,rfl,rfl,hbw.size,by simp,nine_of (MapKept.heap_alloc w1 (cells9 ⟨k2,i2,g2,nm2,fn2,ar2,by2,bt2⟩ (.slice p3 n3 c3))).1,hbw.alloc hbw.size _⟩
   ·go_wp2_with fail;go_meet;exact ⟨_,rfl,rfl,Nat.le_refl _,by simpa using hzz,nine_sets ⟨k2,i2,g2,nm2,fn2,ar2,by2,bt2⟩ _ HB.out,by (repeat' (first | with_reducible exact hbw | with_reducible exact Nat.le_refl _ | with_reducible refine Below.setCell ?_ ?_ _))⟩
  ·obtain rfl:k = 4:=by have:=Hm.out;omega
   obtain rfl:259 = fk:=HFK.out;clear q1 q2 Hm
   go_region_held3 (fun w'=>w'.cell? ⟨w.heap.size,0,none⟩ = some (.pointer (some ⟨g,0,none⟩))∧w'.cell? ⟨g,4,none⟩ = some (.func (.func 259) #[] #[])∧w'.cell? ⟨w.heap.size + 1,0,none⟩ = some (.int .i64 4)∧w'.cell? ⟨w.heap.size + 1,1,none⟩ = some (.int .i64 i)∧w'.cell? ⟨w.heap.size + 1,2,none⟩ = some (.int .i64 gg)∧w'.cell? ⟨w.heap.size + 1,3,none⟩ = some (.string nm)∧w'.cell? ⟨w.heap.size + 1,4,none⟩ = some (.string fn)∧w'.cell? ⟨w.heap.size + 1,5,none⟩ = some (.int .i64 ar)∧w'.cell? ⟨w.heap.size + 1,6,none⟩ = some (.slice p len c)∧w'.cell? ⟨w.heap.size + 1,7,none⟩ = some (.string by_)∧w'.cell? ⟨w.heap.size + 1,8,none⟩ = some (.int .i64 bt)) (go_keep) (first
    | (go_at_call 259;refine (HK.out _ (hw0.drewN 1)).mono ?_;rintro e w1 ⟨rfl,hb⟩;have hbw:=((Below.refl W0.heap.size W0).drewN 1).trans hb;clear hb;obtain ⟨s0,s1,s2,s3,s4,s5,s6,s7,s8,s9,s10⟩:=HS.out w1 hbw;have hl:=hbw.size;have hn1:=World.new_ne w1 _ s0;have hn2:=World.new_ne w1 _ s2;have hn3:=World.new_ne w1 _ s1)
    | (go_at_call 259;refine (HK.out _ ((hw0.drewN 1).alloc hw0.size _)).mono ?_;rintro e w1 ⟨rfl,hb⟩;have hbw:=(((Below.refl W0.heap.size W0).drewN 1).alloc (by simp) _).trans (hb.mono (by simp));have HB:=Lib.hid (one_blk W0 w1 hb);have hzz:W0.heap.size < w1.heap.size:=(by have:=hb.size;simp at this;omega);obtain ⟨s0,s1,s2,s3,s4,s5,s6,s7,s8,s9,s10⟩:=HS.out w1 hbw;obtain ⟨y0,y1,y2,y3,y4,y5,y6,y7,y8,yz⟩:=one_box W0 w1 hb;dsimp only [zeroF,nilV] at y0 y1 y2 y3 y4 y5 y6 y7 y8))
   ·go_wp2_with fail;go_meet;exact ⟨_,rfl,rfl,hbw.size,by simp,nine_of (MapKept.heap_alloc w1 (cells9 ⟨k2,i2,g2,nm2,fn2,ar2,by2,bt2⟩ (.slice p3 n3 c3))).1,hbw.alloc hbw.size _⟩
   ·go_wp2_with fail;go_meet;exact ⟨_,rfl,rfl,Nat.le_refl _,by simpa using hzz,nine_sets ⟨k2,i2,g2,nm2,fn2,ar2,by2,bt2⟩ _ HB.out,by (repeat' (first | with_reducible exact hbw | with_reducible exact Nat.le_refl _ | with_reducible refine Below.setCell ?_ ?_ _))⟩
  ·obtain rfl:k = 5:=by have:=Hm.out;omega
   obtain rfl:260 = fk:=HFK.out;clear q1 q2 Hm
   go_region_held3 (fun w'=>w'.cell? ⟨w.heap.size,0,none⟩ = some (.pointer (some ⟨g,0,none⟩))∧w'.cell? ⟨g,5,none⟩ = some (.func (.func 260) #[] #[])∧w'.cell? ⟨w.heap.size + 1,0,none⟩ = some (.int .i64 5)∧w'.cell? ⟨w.heap.size + 1,1,none⟩ = some (.int .i64 i)∧w'.cell? ⟨w.heap.size + 1,2,none⟩ = some (.int .i64 gg)∧w'.cell? ⟨w.heap.size + 1,3,none⟩ = some (.string nm)∧w'.cell? ⟨w.heap.size + 1,4,none⟩ = some (.string fn)∧w'.cell? ⟨w.heap.size + 1,5,none⟩ = some (.int .i64 ar)∧w'.cell? ⟨w.heap.size + 1,6,none⟩ = some (.slice p len c)∧w'.cell? ⟨w.heap.size + 1,7,none⟩ = some (.string by_)∧w'.cell? ⟨w.heap.size + 1,8,none⟩ = some (.int .i64 bt)) (go_keep) (first
    | (go_at_call 260;refine (HK.out _ (hw0.drewN 1)).mono ?_;rintro e w1 ⟨rfl,hb⟩;have hbw:=((Below.refl W0.heap.size W0).drewN 1).trans hb;clear hb;obtain ⟨s0,s1,s2,s3,s4,s5,s6,s7,s8,s9,s10⟩:=HS.out w1 hbw;have hl:=hbw.size;have hn1:=World.new_ne w1 _ s0;have hn2:=World.new_ne w1 _ s2;have hn3:=World.new_ne w1 _ s1)
    | (go_at_call 260;refine (HK.out _ ((hw0.drewN 1).alloc hw0.size _)).mono ?_;rintro e w1 ⟨rfl,hb⟩;have hbw:=(((Below.refl W0.heap.size W0).drewN 1).alloc (by simp) _).trans (hb.mono (by simp));have HB:=Lib.hid (one_blk W0 w1 hb);have hzz:W0.heap.size < w1.heap.size:=(by have:=hb.size;simp at this;omega);obtain ⟨s0,s1,s2,s3,s4,s5,s6,s7,s8,s9,s10⟩:=HS.out w1 hbw;obtain ⟨y0,y1,y2,y3,y4,y5,y6,y7,y8,yz⟩:=one_box W0 w1 hb;dsimp only [zeroF,nilV] at y0 y1 y2 y3 y4 y5 y6 y7 y8))
   ·go_wp2_with fail;go_meet;exact ⟨_,rfl,rfl,hbw.size,by simp,nine_of (MapKept.heap_alloc w1 (cells9 ⟨k2,i2,g2,nm2,fn2,ar2,by2,bt2⟩ (.slice p3 n3 c3))).1,hbw.alloc hbw.size _⟩
   ·go_wp2_with fail;go_meet;exact ⟨_,rfl,rfl,Nat.le_refl _,by simpa using hzz,nine_sets ⟨k2,i2,g2,nm2,fn2,ar2,by2,bt2⟩ _ HB.out,by (repeat' (first | with_reducible exact hbw | with_reducible exact Nat.le_refl _ | with_reducible refine Below.setCell ?_ ?_ _))⟩
  ·obtain rfl:k = 6:=by have:=Hm.out;omega
   obtain rfl:254 = fk:=HFK.out;clear q1 q2 Hm
   go_region_held3 (fun w'=>w'.cell? ⟨w.heap.size,0,none⟩ = some (.pointer (some ⟨g,0,none⟩))∧w'.cell? ⟨g,6,none⟩ = some (.func (.func 254) #[] #[])∧w'.cell? ⟨w.heap.size + 1,0,none⟩ = some (.int .i64 6)∧w'.cell? ⟨w.heap.size + 1,1,none⟩ = some (.int .i64 i)∧w'.cell? ⟨w.heap.size + 1,2,none⟩ = some (.int .i64 gg)∧w'.cell? ⟨w.heap.size + 1,3,none⟩ = some (.string nm)∧w'.cell? ⟨w.heap.size + 1,4,none⟩ = some (.string fn)∧w'.cell? ⟨w.heap.size + 1,5,none⟩ = some (.int .i64 ar)∧w'.cell? ⟨w.heap.size + 1,6,none⟩ = some (.slice p len c)∧w'.cell? ⟨w.heap.size + 1,7,none⟩ = some (.string by_)∧w'.cell? ⟨w.heap.size + 1,8,none⟩ = some (.int .i64 bt)) (go_keep) (first
    | (go_at_call 254;refine (HK.out _ (hw0.drewN 1)).mono ?_;rintro e w1 ⟨rfl,hb⟩;have hbw:=((Below.refl W0.heap.size W0).drewN 1).trans hb;clear hb;obtain ⟨s0,s1,s2,s3,s4,s5,s6,s7,s8,s9,s10⟩:=HS.out w1 hbw;have hl:=hbw.size;have hn1:=World.new_ne w1 _ s0;have hn2:=World.new_ne w1 _ s2;have hn3:=World.new_ne w1 _ s1)
    | (go_at_call 254;refine (HK.out _ ((hw0.drewN 1).alloc hw0.size _)).mono ?_;rintro e w1 ⟨rfl,hb⟩;have hbw:=(((Below.refl W0.heap.size W0).drewN 1).alloc (by simp) _).trans (hb.mono (by simp));have HB:=Lib.hid (one_blk W0 w1 hb);have hzz:W0.heap.size < w1.heap.size:=(by have:=hb.size;simp at this;omega);obtain ⟨s0,s1,s2,s3,s4,s5,s6,s7,s8,s9,s10⟩:=HS.out w1 hbw;obtain ⟨y0,y1,y2,y3,y4,y5,y6,y7,y8,yz⟩:=one_box W0 w1 hb;dsimp only [zeroF,nilV] at y0 y1 y2 y3 y4 y5 y6 y7 y8))
   ·go_wp2_with fail;go_meet;exact ⟨_,rfl,rfl,hbw.size,by simp,nine_of (MapKept.heap_alloc w1 (cells9 ⟨k2,i2,g2,nm2,fn2,ar2,by2,bt2⟩ (.slice p3 n3 c3))).1,hbw.alloc hbw.size _⟩
   ·go_wp2_with fail;go_meet;exact ⟨_,rfl,rfl,Nat.le_refl _,by simpa using hzz,nine_sets ⟨k2,i2,g2,nm2,fn2,ar2,by2,bt2⟩ _ HB.out,by (repeat' (first | with_reducible exact hbw | with_reducible exact Nat.le_refl _ | with_reducible refine Below.setCell ?_ ?_ _))⟩
  ·obtain rfl:k = 7:=by have:=Hm.out;omega
   obtain rfl:261 = fk:=HFK.out;clear q1 q2 Hm
   go_region_held3 (fun w'=>w'.cell? ⟨w.heap.size,0,none⟩ = some (.pointer (some ⟨g,0,none⟩))∧w'.cell? ⟨g,7,none⟩ = some (.func (.func 261) #[] #[])∧w'.cell? ⟨w.heap.size + 1,0,none⟩ = some (.int .i64 7)∧w'.cell? ⟨w.heap.size + 1,1,none⟩ = some (.int .i64 i)∧w'.cell? ⟨w.heap.size + 1,2,none⟩ = some (.int .i64 gg)∧w'.cell? ⟨w.heap.size + 1,3,none⟩ = some (.string nm)∧w'.cell? ⟨w.heap.size + 1,4,none⟩ = some (.string fn)∧w'.cell? ⟨w.heap.size + 1,5,none⟩ = some (.int .i64 ar)∧w'.cell? ⟨w.heap.size + 1,6,none⟩ = some (.slice p len c)∧w'.cell? ⟨w.heap.size + 1,7,none⟩ = some (.string by_)∧w'.cell? ⟨w.heap.size + 1,8,none⟩ = some (.int .i64 bt)) (go_keep) (first
    | (go_at_call 261;refine (HK.out _ (hw0.drewN 1)).mono ?_;rintro e w1 ⟨rfl,hb⟩;have hbw:=((Below.refl W0.heap.size W0).drewN 1).trans hb;clear hb;obtain ⟨s0,s1,s2,s3,s4,s5,s6,s7,s8,s9,s10⟩:=HS.out w1 hbw;have hl:=hbw.size;have hn1:=World.new_ne w1 _ s0;have hn2:=World.new_ne w1 _ s2;have hn3:=World.new_ne w1 _ s1)
    | (go_at_call 261;refine (HK.out _ ((hw0.drewN 1).alloc hw0.size _)).mono ?_;rintro e w1 ⟨rfl,hb⟩;have hbw:=(((Below.refl W0.heap.size W0).drewN 1).alloc (by simp) _).trans (hb.mono (by simp));have HB:=Lib.hid (one_blk W0 w1 hb);have hzz:W0.heap.size < w1.heap.size:=(by have:=hb.size;simp at this;omega);obtain ⟨s0,s1,s2,s3,s4,s5,s6,s7,s8,s9,s10⟩:=HS.out w1 hbw;obtain ⟨y0,y1,y2,y3,y4,y5,y6,y7,y8,yz⟩:=one_box W0 w1 hb;dsimp only [zeroF,nilV] at y0 y1 y2 y3 y4 y5 y6 y7 y8))
   ·go_wp2_with fail;go_meet;exact ⟨_,rfl,rfl,hbw.size,by simp,nine_of (MapKept.heap_alloc w1 (cells9 ⟨k2,i2,g2,nm2,fn2,ar2,by2,bt2⟩ (.slice p3 n3 c3))).1,hbw.alloc hbw.size _⟩
   ·go_wp2_with fail;go_meet;exact ⟨_,rfl,rfl,Nat.le_refl _,by simpa using hzz,nine_sets ⟨k2,i2,g2,nm2,fn2,ar2,by2,bt2⟩ _ HB.out,by (repeat' (first | with_reducible exact hbw | with_reducible exact Nat.le_refl _ | with_reducible refine Below.setCell ?_ ?_ _))⟩
  ·obtain rfl:k = 8:=by have:=Hm.out;omega
   obtain rfl:262 = fk:=HFK.out;clear q1 q2 Hm
   go_region_held3 (fun w'=>w'.cell? ⟨w.heap.size,0,none⟩ = some (.pointer (some ⟨g,0,none⟩))∧w'.cell? ⟨g,8,none⟩ = some (.func (.func 262) #[] #[])∧w'.cell? ⟨w.heap.size + 1,0,none⟩ = some (.int .i64 8)∧w'.cell? ⟨w.heap.size + 1,1,none⟩ = some (.int .i64 i)∧w'.cell? ⟨w.heap.size + 1,2,none⟩ = some (.int .i64 gg)∧w'.cell? ⟨w.heap.size + 1,3,none⟩ = some (.string nm)∧w'.cell? ⟨w.heap.size + 1,4,none⟩ = some (.string fn)∧w'.cell? ⟨w.heap.size + 1,5,none⟩ = some (.int .i64 ar)∧w'.cell? ⟨w.heap.size + 1,6,none⟩ = some (.slice p len c)∧w'.cell? ⟨w.heap.size + 1,7,none⟩ = some (.string by_)∧w'.cell? ⟨w.heap.size + 1,8,none⟩ = some (.int .i64 bt)) (go_keep) (first
    | (go_at_call 262;refine (HK.out _ (hw0.drewN 1)).mono ?_;rintro e w1 ⟨rfl,hb⟩;have hbw:=((Below.refl W0.heap.size W0).drewN 1).trans hb;clear hb;obtain ⟨s0,s1,s2,s3,s4,s5,s6,s7,s8,s9,s10⟩:=HS.out w1 hbw;have hl:=hbw.size;have hn1:=World.new_ne w1 _ s0;have hn2:=World.new_ne w1 _ s2;have hn3:=World.new_ne w1 _ s1)
    | (go_at_call 262;refine (HK.out _ ((hw0.drewN 1).alloc hw0.size _)).mono ?_;rintro e w1 ⟨rfl,hb⟩;have hbw:=(((Below.refl W0.heap.size W0).drewN 1).alloc (by simp) _).trans (hb.mono (by simp));have HB:=Lib.hid (one_blk W0 w1 hb);have hzz:W0.heap.size < w1.heap.size:=(by have:=hb.size;simp at this;omega);obtain ⟨s0,s1,s2,s3,s4,s5,s6,s7,s8,s9,s10⟩:=HS.out w1 hbw;obtain ⟨y0,y1,y2,y3,y4,y5,y6,y7,y8,yz⟩:=one_box W0 w1 hb;dsimp only [zeroF,nilV] at y0 y1 y2 y3 y4 y5 y6 y7 y8))
   ·go_wp2_with fail;go_meet;exact ⟨_,rfl,rfl,hbw.size,by simp,nine_of (MapKept.heap_alloc w1 (cells9 ⟨k2,i2,g2,nm2,fn2,ar2,by2,bt2⟩ (.slice p3 n3 c3))).1,hbw.alloc hbw.size _⟩
   ·go_wp2_with fail;go_meet;exact ⟨_,rfl,rfl,Nat.le_refl _,by simpa using hzz,nine_sets ⟨k2,i2,g2,nm2,fn2,ar2,by2,bt2⟩ _ HB.out,by (repeat' (first | with_reducible exact hbw | with_reducible exact Nat.le_refl _ | with_reducible refine Below.setCell ?_ ?_ _))⟩
  ·obtain rfl:k = 9:=by have:=Hm.out;omega
   obtain rfl:263 = fk:=HFK.out;clear q1 q2 Hm
   go_region_held3 (fun w'=>w'.cell? ⟨w.heap.size,0,none⟩ = some (.pointer (some ⟨g,0,none⟩))∧w'.cell? ⟨g,9,none⟩ = some (.func (.func 263) #[] #[])∧w'.cell? ⟨w.heap.size + 1,0,none⟩ = some (.int .i64 9)∧w'.cell? ⟨w.heap.size + 1,1,none⟩ = some (.int .i64 i)∧w'.cell? ⟨w.heap.size + 1,2,none⟩ = some (.int .i64 gg)∧w'.cell? ⟨w.heap.size + 1,3,none⟩ = some (.string nm)∧w'.cell? ⟨w.heap.size + 1,4,none⟩ = some (.string fn)∧w'.cell? ⟨w.heap.size + 1,5,none⟩ = some (.int .i64 ar)∧w'.cell? ⟨w.heap.size + 1,6,none⟩ = some (.slice p len c)∧w'.cell? ⟨w.heap.size + 1,7,none⟩ = some (.string by_)∧w'.cell? ⟨w.heap.size + 1,8,none⟩ = some (.int .i64 bt)) (go_keep) (first
    | (go_at_call 263;refine (HK.out _ (hw0.drewN 1)).mono ?_;rintro e w1 ⟨rfl,hb⟩;have hbw:=((Below.refl W0.heap.size W0).drewN 1).trans hb;clear hb;obtain ⟨s0,s1,s2,s3,s4,s5,s6,s7,s8,s9,s10⟩:=HS.out w1 hbw;have hl:=hbw.size;have hn1:=World.new_ne w1 _ s0;have hn2:=World.new_ne w1 _ s2;have hn3:=World.new_ne w1 _ s1)
    | (go_at_call 263;refine (HK.out _ ((hw0.drewN 1).alloc hw0.size _)).mono ?_;rintro e w1 ⟨rfl,hb⟩;have hbw:=(((Below.refl W0.heap.size W0).drewN 1).alloc (by simp) _).trans (hb.mono (by simp));have HB:=Lib.hid (one_blk W0 w1 hb);have hzz:W0.heap.size < w1.heap.size:=(by have:=hb.size;simp at this;omega);obtain ⟨s0,s1,s2,s3,s4,s5,s6,s7,s8,s9,s10⟩:=HS.out w1 hbw;obtain ⟨y0,y1,y2,y3,y4,y5,y6,y7,y8,yz⟩:=one_box W0 w1 hb;dsimp only [zeroF,nilV] at y0 y1 y2 y3 y4 y5 y6 y7 y8))
   ·go_wp2_with fail;go_meet;exact ⟨_,rfl,rfl,hbw.size,by simp,nine_of (MapKept.heap_alloc w1 (cells9 ⟨k2,i2,g2,nm2,fn2,ar2,by2,bt2⟩ (.slice p3 n3 c3))).1,hbw.alloc hbw.size _⟩
   ·go_wp2_with fail;go_meet;exact ⟨_,rfl,rfl,Nat.le_refl _,by simpa using hzz,nine_sets ⟨k2,i2,g2,nm2,fn2,ar2,by2,bt2⟩ _ HB.out,by (repeat' (first | with_reducible exact hbw | with_reducible exact Nat.le_refl _ | with_reducible refine Below.setCell ?_ ?_ _))⟩
  ·obtain rfl:k = 10:=by have:=Hm.out;omega
   obtain rfl:264 = fk:=HFK.out;clear q1 q2 Hm
   go_region_held3 (fun w'=>w'.cell? ⟨w.heap.size,0,none⟩ = some (.pointer (some ⟨g,0,none⟩))∧w'.cell? ⟨g,10,none⟩ = some (.func (.func 264) #[] #[])∧w'.cell? ⟨w.heap.size + 1,0,none⟩ = some (.int .i64 10)∧w'.cell? ⟨w.heap.size + 1,1,none⟩ = some (.int .i64 i)∧w'.cell? ⟨w.heap.size + 1,2,none⟩ = some (.int .i64 gg)∧w'.cell? ⟨w.heap.size + 1,3,none⟩ = some (.string nm)∧w'.cell? ⟨w.heap.size + 1,4,none⟩ = some (.string fn)∧w'.cell? ⟨w.heap.size + 1,5,none⟩ = some (.int .i64 ar)∧w'.cell? ⟨w.heap.size + 1,6,none⟩ = some (.slice p len c)∧w'.cell? ⟨w.heap.size + 1,7,none⟩ = some (.string by_)∧w'.cell? ⟨w.heap.size + 1,8,none⟩ = some (.int .i64 bt)) (go_keep) (first
    | (go_at_call 264;refine (HK.out _ (hw0.drewN 1)).mono ?_;rintro e w1 ⟨rfl,hb⟩;have hbw:=((Below.refl W0.heap.size W0).drewN 1).trans hb;clear hb;obtain ⟨s0,s1,s2,s3,s4,s5,s6,s7,s8,s9,s10⟩:=HS.out w1 hbw;have hl:=hbw.size;have hn1:=World.new_ne w1 _ s0;have hn2:=World.new_ne w1 _ s2;have hn3:=World.new_ne w1 _ s1)
    | (go_at_call 264;refine (HK.out _ ((hw0.drewN 1).alloc hw0.size _)).mono ?_;rintro e w1 ⟨rfl,hb⟩;have hbw:=(((Below.refl W0.heap.size W0).drewN 1).alloc (by simp) _).trans (hb.mono (by simp));have HB:=Lib.hid (one_blk W0 w1 hb);have hzz:W0.heap.size < w1.heap.size:=(by have:=hb.size;simp at this;omega);obtain ⟨s0,s1,s2,s3,s4,s5,s6,s7,s8,s9,s10⟩:=HS.out w1 hbw;obtain ⟨y0,y1,y2,y3,y4,y5,y6,y7,y8,yz⟩:=one_box W0 w1 hb;dsimp only [zeroF,nilV] at y0 y1 y2 y3 y4 y5 y6 y7 y8))
   ·go_wp2_with fail;go_meet;exact ⟨_,rfl,rfl,hbw.size,by simp,nine_of (MapKept.heap_alloc w1 (cells9 ⟨k2,i2,g2,nm2,fn2,ar2,by2,bt2⟩ (.slice p3 n3 c3))).1,hbw.alloc hbw.size _⟩
   ·go_wp2_with fail;go_meet;exact ⟨_,rfl,rfl,Nat.le_refl _,by simpa using hzz,nine_sets ⟨k2,i2,g2,nm2,fn2,ar2,by2,bt2⟩ _ HB.out,by (repeat' (first | with_reducible exact hbw | with_reducible exact Nat.le_refl _ | with_reducible refine Below.setCell ?_ ?_ _))⟩
 case rest =>
 obtain ⟨z,rfl,rfl,hzl,hzs,hZ,hbc⟩:=hcut;have hlen:t.items.length = len:=by
  obtain ⟨p9,c9,e,_⟩:=HI.out.shape;simp only [Value.slice.injEq] at e;exact e.2.1.symm
 have hokT:=okT_eq t h0 h1 HF.out HBF.out HBV.out hlen HOK.out;have hform:=formedT_eq t hokT;dsimp only at hform;have HFm:=Lib.hid hform;have HBC:=Lib.hid hbc;clear hform hbc hfn0 hc0 a0 a1 a2 a3 a4 a5 a6 a7 a8 az HK hokT;obtain ⟨y0,y1,y2,y3,y4,y5,y6,y7,y8,yz⟩:=hZ;dsimp only at y0 y1 y2 y3 y4 y5 y6 y7 y8;have hS:=fun W=>sameZ (⟨0,i2,g2,nm2,fn2,ar2,by2,bt2⟩:TF) p3 n3 c3 W;generalize (eqB (⟨0,i2,g2,nm2,fn2,ar2,by2,bt2⟩:TF) zeroF && decide (n3 = 0)) = sm at *;unfold aggV zeroF at hS;dsimp only at hS;have HSm:=Lib.hid hS;clear hS
 -- the end when the term is not well formed
 have hbad:∀ wx,Below W0.heap.size W0 wx→formedT t = false→MPost g s (formedT t) (nodesT t) (wholeT t) w (.returned (.bool false)) wx:=fun wx hb he=>by
  rw [he];have hN1:1 ≤ nodesT t:=by unfold nodesT;omega
  have hb':=hw0.trans (hb.mono (by have:=HSZ.out;omega));exact ⟨rfl,s,HM.out.block (hb'.block g hgl),(TouchB.refl _ _).ofBelow hb' (Nat.le_refl _),hs,by omega,fun h=>by cases h⟩
 have HBAD:=Lib.hid hbad;clear hbad
 by_cases hok:ok = true
 ·subst hok
  by_cases hsm:sm = true
  ·subst hsm;have hform:=HFm.out;simp only [Bool.true_and] at hform;have HFL:=Lib.hid hform;clear hform;obtain ⟨hsb1,hsb2,hs9,hs10,hs11⟩:=size_bound HOK.out trivial;dsimp only at hs9 hs10 hs11;go_wp2_with fail;refine (HSm.out _).mono ?_;rintro e w2 ⟨rfl,hb2⟩;have hb3:Below W0.heap.size W0 w2:=(Below.setCell HBC.out (by simpa using hzl) _).trans (hb2.mono (by simp;omega));clear hb2 HSm HBAD y0 y1 y2 y3 y4 y5 y6 y7 y8 yz;have hb4:Below w.heap.size w w2:=hw0.trans (hb3.mono (by have:=HSZ.out;omega));have hM2:Meas w2 g s:=HM.out.block (hb4.block g hgl)
   have hN2:=HN.out.below hb3 (by have:=HSZ.out;omega);have hp2:w2.cell? ⟨w.heap.size,0,none⟩ = some (.pointer (some ⟨g,0,none⟩)):=(HS.out _ hb3).1;have hsz2:w.heap.size + 1 < w2.heap.size:=by have:=HSZ.out;have:=hb3.size;omega
   obtain ⟨x0,x1,x2,x3,x4,x5,x6,x7,x8,xz⟩:=hN2;dsimp only at x0 x1 x2 x3 x4 x5 x6 x7 x8;have hms:=hM2.size;have hmz:=hM2.frozen 11;have hN1:(nodesT t:Int) = 1 + (nodesL n t.items:Int):=by unfold nodesT;omega
   have hNL:=nodes_len n t.items;rw [hlen] at hNL;have hwT:wholeT t = sizeF ⟨k,i,gg,nm,fn,ar,by_,bt⟩ len + wholeL n t.items:=by unfold wholeT;rw [HF.out,hlen]
   -- the end
   have hend:∀ (w3:World) (s3:Int),Meas w3 g s3→TouchB (fun k=>k = g) w w3→w3.cell? ⟨w.heap.size,0,none⟩ = some (.pointer (some ⟨g,0,none⟩))→w.heap.size + 1 < w3.heap.size→s3 = s + sizeF ⟨k,i,gg,nm,fn,ar,by_,bt⟩ len →
    Calls Tryz.prog 266 #[.slice p len c,.func (.func 267) #[] #[.pointer (some ⟨w.heap.size,0,none⟩)]] w3 fun e w'=>e = .returned (.bool (!formedL n t.items))∧Below w3.heap.size w3 w3∧MPost g s (formedT t) (nodesT t) (wholeT t) w (.returned (.bool (formedT t))) w':=fun w3 s3 h1 h2 h3 h4 h5=>by
    refine (hx w3 B g w.heap.size _ t.items s3 (by omega) (HI.out.same (fun q hq=>h2.block q (by omega) (by omega))) h1 hg h3 (by omega) (by omega) (by omega) (by rw [hlen];omega)).mono ?_;rintro e w' ⟨rfl,s4,m1,m2,m3,m4,m5⟩;refine ⟨rfl,Below.refl _ _,rfl,s4,m1,h2.trans m2 (fun _ _ e=>e),m3,by rw [hlen] at m4;omega,fun hf=>?_⟩;rw [HFL.out] at hf;have:=m5 hf;omega
   have HEND:=Lib.hid hend;have hsl:s + 300 * (len:Int) ≤ 1000000000000:=by omega
   clear hend hms hN1;have HT0:TouchB (fun k=>k = g) w w2:=(TouchB.refl _ _).ofBelow hb4 (Nat.le_refl _)
   by_cases h9:k = 9
   ·subst h9;have hl2:=hs9 rfl;have hms:=hM2.size;have hw1:IntKind.i64.wrap ((len:Int) - 1) = (len:Int) - 1:=IntWalk.i64_in _ (by omega);have hw2:IntKind.i64.wrap (s + ((len:Int) - 1)) = s + ((len:Int) - 1):=IntWalk.i64_in _ (by omega);have hM3:=(hM2.block (w':=w2.drew) rfl).set (s + ((len:Int) - 1));have hMD:w2.drew.frozen? ⟨g,11,none⟩ = false:=hmz;go_wp2_with fail;go_region
    go_wp2_with fail;refine (HEND.out _ (s + ((len:Int) - 1)) hM3 ((HT0.drewN 1).setCell _ _ (fun _=>rfl)) ((World.cell?_setCell_far _ _ _ _ (Nat.ne_of_lt hgl)).trans hp2) (by simpa using hsz2) (by unfold sizeF;dsimp only;rw [if_pos rfl])).mono ?_;rintro e w' ⟨rfl,_,hfin⟩;have HFin:=Lib.hid hfin;clear hfin;go_wp2_with fail;go_ret;have hh:=HFin.out;rw [HFL.out] at hh ⊢;simpa using hh
   ·have q9:(k == 9) = false:=by simp [h9]
    by_cases h10:k = 10
    ·subst h10;have hbt:=hs10 rfl;have hms:=hM2.size;have hd1:(bt + 63).tdiv 64 = (bt + 63) / 64:=Int.tdiv_eq_ediv_of_nonneg (by omega);have hw1:IntKind.i64.wrap (bt + 63) = bt + 63:=IntWalk.i64_in _ (by omega);have hw2:IntKind.i64.wrap ((bt + 63) / 64) = (bt + 63) / 64:=IntWalk.i64_in _ (by omega);have hw3:IntKind.i64.wrap (1 + (bt + 63) / 64) = 1 + (bt + 63) / 64:=IntWalk.i64_in _ (by omega);have hw4:IntKind.i64.wrap (s + (1 + (bt + 63) / 64)) = s + (1 + (bt + 63) / 64):=IntWalk.i64_in _ (by omega);have hM3:=(hM2.block (w':=w2.drew) rfl).set (s + (1 + (bt + 63) / 64))
     have hMD:w2.drew.frozen? ⟨g,11,none⟩ = false:=hmz;go_wp2_with fail;go_region
     go_wp2_with fail;refine (HEND.out _ (s + (1 + (bt + 63) / 64)) hM3 ((HT0.drewN 1).setCell _ _ (fun _=>rfl)) ((World.cell?_setCell_far _ _ _ _ (Nat.ne_of_lt hgl)).trans hp2) (by simpa using hsz2) (by unfold sizeF;dsimp only;rw [if_neg (by decide),if_pos rfl])).mono ?_;rintro e w' ⟨rfl,_,hfin⟩;have HFin:=Lib.hid hfin;clear hfin;go_wp2_with fail;go_ret;have hh:=HFin.out;rw [HFL.out] at hh ⊢;simpa using hh
    ·have q10:(k == 10) = false:=by simp [h10]
     have hms:=hM2.size;have hw1:IntKind.i64.wrap (s + 1) = s + 1:=IntWalk.i64_in _ (by omega);have hM3:=hM2.set (s + 1);go_wp2_with fail;refine (HEND.out _ (s + 1) hM3 (HT0.setCell _ _ (fun _=>rfl)) ((World.cell?_setCell_far _ _ _ _ (Nat.ne_of_lt hgl)).trans hp2) (by simpa using hsz2) (by unfold sizeF;dsimp only;rw [if_neg h9,if_neg h10])).mono ?_;rintro e w' ⟨rfl,_,hfin⟩;have HFin:=Lib.hid hfin;clear hfin;go_wp2_with fail;go_ret;have hh:=HFin.out;rw [HFL.out] at hh ⊢;simpa using hh
  ·have hsm:sm = false:=by simpa using hsm
   subst hsm;have HN0:=Lib.hid HFm.out;go_wp2_with fail;refine (HSm.out _).mono ?_;rintro e w2 ⟨rfl,hb2⟩;have hb3:Below W0.heap.size W0 w2:=(Below.setCell HBC.out (by simpa using hzl) _).trans (hb2.mono (by simp;omega));go_wp2_with fail;go_ret;exact HBAD.out _ hb3 HN0.out
 ·have hok:ok = false:=by simpa using hok
  subst hok;have HN0:=Lib.hid HFm.out;clear HSm;go_wp2_with fail;go_ret;exact HBAD.out _ (Below.setCell HBC.out (by simpa using hzl) _) HN0.out
theorem ofStep {n:Nat} (hx:ConS n):OfS n:=by
 intro w B g v t s hB hI hM hg hs hss
 by_cases h:0 ≤ t.f.kind∧t.f.kind ≤ 10
 ·exact ofYes hx w B g v t s hB hI hM hg hs hss h.1 h.2
 ·exact ofNo w g v t s hM hs h (by obtain ⟨p,c,e,_⟩:=hI.shape;exact ⟨p,_,c,e⟩)
theorem conAll:∀ n,ConS n
 | 0=>con0
 | n + 1=>con1 (ofStep (conAll n))
theorem ofAll (n:Nat):OfS n:=ofStep (conAll n)
end tm
namespace hp
open Go.RowKit mem words rec tm
def fK (k n:Int):TF:=⟨k,n,0,⟨#[]⟩,⟨#[]⟩,0,⟨#[]⟩,0⟩
def tK (k n:Int):Tm 1:=Tm.mk (fK k n) []
def l0:List (Tm 1):=[tK 1 1,tK 1 1,tK 8 0]
def t0:Tm 2:=Tm.mk (fK 9 0) l0
theorem ok0 (k:Int) (n:Int) (h:k = 1∨k = 8∧n = 0):okT (tK k n) = true:=by
 rcases h with rfl | ⟨rfl,rfl⟩ <;> simp [okT,tK,Tm.f,Tm.items,Tm.mk,fK,inB,okF,bareOK,bareF,zeroF,eqB_t]
theorem valid0:validT t0 = true:=by
 have h1:okT t0 = true:=by
  show (inB 9 0 10 && (okF (fK 9 0) 3 8 && bareOK (fK 9 0) 3)) = true;simp [fK,inB,okF,bareOK,bareF,zeroF,eqB_t]
 have h2:formedL 1 l0 = true:=by
  simp [formedL,l0,ok0]
 have h3:wholeT t0 = 5:=by rfl
 unfold validT formedT;rw [h1,show formedL 1 t0.items = true from h2,h3];rfl
theorem nodes0:nodesT t0 = 4:=by rfl
theorem items_of {w:World} {B:Nat} {v:Value} (h:RecAt encT 9 w B v [(1,1),(1,1),(8,0)]):ItemsAt w B 1 v l0:=by
 obtain ⟨p,c,e,h1,h2,h3⟩:=h;refine ⟨p,c,e,h1,h2,fun _=>?_⟩;obtain ⟨g,o,e',hg,hc⟩:=h3 (by simp);refine ⟨g,o,e',hg,fun j hj=>?_⟩;have hn:ItemsAt w B 0 (Value.slice none 0 0) ([]:List (Tm 0)):=⟨none,0,rfl,by unfold maxLen;omega⟩;have mk:∀ (k n:Int),[((1:Int),(1:Int)),(1,1),(8,0)][j]? = some (k,n)→l0[j] = tK k n→∃ u,Cells w g (o + j * 9) (l0[j]).f u∧ItemsAt w B 0 u (l0[j]).items:=fun k n hj hl=>by
  rw [hl];have q:=hc j (k,n) hj;exact ⟨.slice none 0 0,⟨q 0 _ rfl,q 1 _ rfl,q 2 _ rfl,q 3 _ rfl,q 4 _ rfl,q 5 _ rfl,q 6 _ rfl,q 7 _ rfl,q 8 _ rfl⟩,hn⟩
 have:j = 0∨j = 1∨j = 2:=by
  have:j < 3:=hj;omega
 rcases this with rfl | rfl | rfl
 ·exact mk 1 1 rfl rfl
 ·exact mk 1 1 rfl rfl
 ·exact mk 8 0 rfl rfl
theorem aw3_row {w:World} {g:Nat} (h:w.heap[g]? = some (.cells aw3 38)):RecAt encT 9 w (g + 1) (.slice (some ⟨g,0,none⟩) 3 3) [(1,1),(1,1),(8,0)] :=
 RecAt.fresh (l:=[(1,1),(1,1),(8,0)]) (encT_ok _) (by decide) (by rw [h];rfl) (Nat.le_refl 3) (by unfold maxLen;omega)
theorem valid67 {w:World} {g:Nat} (h:w.heap[g]? = some (.cells aw3 38)):Calls Tryz.prog 67 #[listT g] w fun e w'=>e = .returned (.bool true)∧Below w.heap.size w w':=by
 have hg:=(Array.getElem?_eq_some_iff.1 h).1;have:=ValidTm (ofAll 1) w w.heap.size (.slice (some ⟨g,0,none⟩) 3 3) t0 (Nat.le_refl _) (items_of ((aw3_row h).more (by omega))) (by rw [nodes0];omega);rw [valid0] at this;exact this
abbrev BoxF (x g:Nat) (W:World):Prop:=W.cell? ⟨x,0,none⟩ = some (.int .i64 9)∧W.cell? ⟨x,1,none⟩ = some (.int .i64 0)∧W.cell? ⟨x,2,none⟩ = some (.int .i64 0)∧W.cell? ⟨x,3,none⟩ = some (.string ⟨#[]⟩)∧W.cell? ⟨x,4,none⟩ = some (.string ⟨#[]⟩)∧W.cell? ⟨x,5,none⟩ = some (.int .i64 0)∧W.cell? ⟨x,6,none⟩ = some (.slice (some ⟨g,0,none⟩) 3 3)∧W.cell? ⟨x,7,none⟩ = some (.string ⟨#[]⟩)∧W.cell? ⟨x,8,none⟩ = some (.int .i64 0)
theorem boxF {W:World} {x g:Nat} (h:W.heap[x]? = some (.cells (flatC9 g) 38)):BoxF x g W :=
 ⟨(cell_of_blk h).trans rfl,(cell_of_blk h).trans rfl,(cell_of_blk h).trans rfl,(cell_of_blk h).trans rfl,(cell_of_blk h).trans rfl,(cell_of_blk h).trans rfl,(cell_of_blk h).trans rfl,(cell_of_blk h).trans rfl,(cell_of_blk h).trans rfl⟩
theorem put18 {w:World} {B z a b g:Nat} {vY vF:Value} (h:HA w B z a b 100 vY vF [] []) (hg:w.heap[g]? = some (.cells aw3 38)) :
 Calls Tryz.prog 18 #[.pointer (some ⟨z,0,none⟩),listT g] w fun e w'=>e = .returned (.tuple #[.int .u64 17,.int .i64 0])∧Step B z a b 100 vY vF w [19,11,19,1] F1 w':=by
 have hb0:Below w.heap.size w (w.alloc (.cells (flatC9 g) 38)):=belowA (Below.refl _ w) _;have hgl:=(Array.getElem?_eq_some_iff.1 hg).1;have hx:=heap_alloc_new w (.cells (flatC9 g) 38);have hsz:(w.alloc (.cells (flatC9 g) 38)).heap.size = w.heap.size + 1:=World.size_alloc _ _;have HM:=Lib.hid (made66 (h.below hb0));generalize hw1:w.alloc (.cells (flatC9 g) 38) = w1 at *;have hx1:w.heap.size < w1.heap.size:=by omega
 have up:∀ W,Below w1.heap.size w1 W→Below w.heap.size w W:=fun W hb=>hb0.trans (hb.mono hb0.size);have HV:=Lib.hid (valid67 ((hb0.block g hgl).trans hg));have HR:Hid (∀ W,Below w1.heap.size w1 W→Calls Tryz.prog 39 #[.pointer (some ⟨z,0,none⟩)] W fun e w'=>e = .returned (.int .i64 100)∧Below W.heap.size W w'):=Lib.hid (fun W hb=>room39 (h.below (up W hb)) (by simp) (by omega) (by omega));have HN:=Lib.hid (fun W (hb:Below w1.heap.size w1 W)=>needL W g (((up W hb).block g hgl).trans hg))
 have HP:=Lib.hid (fun W (hb:Below w1.heap.size w1 W)=>putL (h.below (up W hb)) (((up W hb).block g hgl).trans hg));have HX:=Lib.hid (fun W (hb:Below w1.heap.size w1 W)=>boxF (W:=W) ((hb.block w.heap.size hx1).trans hx));have HUp:=Lib.hid up;obtain ⟨x0,x1,x2,x3,x4,x5,x6,x7,x8⟩:=HX.out w1 (Below.refl _ _);clear h hg hgl hb0 hx hsz hx1 up;go_enter Tryz.func18,Tryz.ntmps18;go_upto_region 1 with (fail);go_wp2_with fail;refine HM.out.mono ?_;rintro e W0 ⟨rfl,rfl⟩;go_wp2_with fail;refine HV.out.mono ?_;rintro e W2 ⟨rfl,hbd⟩;clear x0 x1 x2 x3 x4 x5 x6 x7 x8;go_wp2_with fail;replace hbd:=belowD hbd
 obtain ⟨x0,x1,x2,x3,x4,x5,x6,x7,x8⟩:=HX.out W2.drew hbd
 go_region_held3 (fun w'=>w'.cell? ⟨w.heap.size,0,none⟩ = some (.int .i64 9)∧w'.cell? ⟨w.heap.size,1,none⟩ = some (.int .i64 0)∧w'.cell? ⟨w.heap.size,2,none⟩ = some (.int .i64 0)∧w'.cell? ⟨w.heap.size,3,none⟩ = some (.string ⟨#[]⟩)∧w'.cell? ⟨w.heap.size,4,none⟩ = some (.string ⟨#[]⟩)∧w'.cell? ⟨w.heap.size,5,none⟩ = some (.int .i64 0)∧w'.cell? ⟨w.heap.size,6,none⟩ = some (.slice (some ⟨g,0,none⟩) 3 3)∧w'.cell? ⟨w.heap.size,7,none⟩ = some (.string ⟨#[]⟩)∧w'.cell? ⟨w.heap.size,8,none⟩ = some (.int .i64 0)) (go_keep)
  (first
    | (go_at_call 39;refine (HR.out _ hbd).mono ?_;rintro e W3 ⟨rfl,hb⟩;replace hbd:=hbd.trans (hb.mono hbd.size);clear hb x0 x1 x2 x3 x4 x5 x6 x7 x8;obtain ⟨x0,x1,x2,x3,x4,x5,x6,x7,x8⟩:=HX.out W3 hbd)
    | (go_at_call 68;refine (HN.out _ hbd).mono ?_;rintro e W4 ⟨rfl,hb⟩;replace hbd:=hbd.trans (hb.mono hbd.size);clear hb x0 x1 x2 x3 x4 x5 x6 x7 x8;obtain ⟨x0,x1,x2,x3,x4,x5,x6,x7,x8⟩:=HX.out W4 hbd))
 all_goals
  go_wp2_with fail;refine (HP.out _ hbd).mono ?_;rintro e W5 ⟨rfl,hS⟩;have HS:=Lib.hid (Step.of_below (HUp.out _ hbd) hS);clear hS x0 x1 x2 x3 x4 x5 x6 x7 x8;go_wp2_with fail;exact bodyPost_ret (v:=.tuple #[.int .u64 17,.int .i64 0]) (by simp [results,Tryz.results18,go_sem, *]) rfl ⟨rfl,HS.out⟩
theorem results_c1 {fn:Func} {p u:Tmp} {ty:TypeId} (h:fn.results = #[.cell p ty,.tmp u]) (tmps:Array Value) (P:Program) (w:World) :
 (results fn tmps).run P w = ((asAddr (tmps.getD p undef)).run P w).andThen fun a w₁=>((loadVar ty a).run P w₁).andThen fun x w₂=>.ok (.tuple #[x,tmps.getD u undef]) w₂:=by
 simp only [results,h];simp [Sem.run_bind,Result.andThen]
theorem ret_row1 {fn:Func} {p q:Tmp} (h:fn.results = #[.cell p 38,.tmp q]) (tmps:Array Value) {g:Nat} {r:Value} (hp:tmps.getD p undef = .pointer (some ⟨g,0,none⟩)) (hq:tmps.getD q undef = r) {W:World} {cs:List Value} (hl:cs.length = 9) (hc:W.rangeAt g 0 cs) :
 (results fn tmps).run Tryz.prog W = .ok (.tuple #[.agg cs.toArray,r]) W:=by
 rw [results_c1 h,hp];simp only [asAddr,Sem.run_pure,Result.andThen_ok];rw [run_loadVar_mid W g 0 38 cs _ hc Tryz.underlying38 rfl (by rw [hl];kernel_rfl),Result.andThen_ok,hq]
theorem get29 {w:World} {B z a b:Nat} {c:Int} {vY vF:Value} (h:HA w B z a b c vY vF [19,11,19,1] F1) :
 Calls Tryz.prog 29 #[.pointer (some ⟨z,0,none⟩),.int .u64 17] w fun e w'=>∃ p k,e = .returned (.tuple #[.agg (flatV (.slice p 3 k)),.int .i64 0])∧RecOwn encT 38 9 w' w.heap.size (.slice p 3 k) [(1,1),(1,1),(8,0)]∧Below w.heap.size w w':=by
 have hb0:Below w.heap.size w (w.alloc (.cells zC 38)):=belowA (Below.refl _ w) _;have hx:=heap_alloc_new w (.cells zC 38);have hsz:(w.alloc (.cells zC 38)).heap.size = w.heap.size + 1:=World.size_alloc _ _;have HM:=Lib.hid (made66 (h.below hb0));have HI:=Lib.hid (is17 (h.below hb0));have HG:=Lib.hid (fun W (hb:Below w.heap.size w W)=>get17 (h.below hb));have HB0:=Lib.hid hb0;have HX:=Lib.hid hx;have HS:=Lib.hid hsz;clear h hb0 hx hsz;go_enter Tryz.func29,Tryz.ntmps29;go_wp2_with fail;refine HM.out.mono ?_;rintro e w1 ⟨rfl,rfl⟩;go_wp2_with fail;refine HI.out.mono ?_;rintro e w1 ⟨rfl,hb⟩
 have hs1:=hb.size;have HX1:=Lib.hid ((hb.block w.heap.size (by rw [HS.out];omega)).trans HX.out);have HK:Hid (w.heap.size < w1.heap.size):=Lib.hid (by rw [HS.out] at hs1;omega);have HB1:=Lib.hid (HB0.out.trans (hb.mono HB0.out.size));clear hs1 hb;go_wp2_with fail;refine (HG.out _ HB1.out).mono ?_;rintro e w2 ⟨v,rfl,hO,hb⟩;obtain ⟨p3,c3,e3,_,_⟩:=hO.shape;have e3':v = .slice p3 3 c3:=e3;clear e3;subst e3';have HX2:=Lib.hid ((hb.block w.heap.size HK.out).trans HX1.out);have HB2:=Lib.hid (HB1.out.trans (hb.mono HB1.out.size));have HO:=Lib.hid hO;clear hb hO
 go_wp2_with (refine wpList_store_row rfl 38 (.tmp 4) (.tmp 17) rfl w.heap.size (flatV (.slice p3 3 c3)) rfl rfl 38 zC HX2.out i38 rfl (oneV HO.out) ?_)
 go_wp2_with fail
 refine bodyPost_ret (v:=.tuple #[.agg (flatV (.slice p3 3 c3)),.int .i64 0]) ?_ rfl ⟨p3,c3,rfl,?_,below_setRow HB2.out (Nat.le_refl _) _⟩
 ·exact ret_row1 (p:=4) (q:=5) (r:=.int .i64 0) rfl _ rfl rfl (cs:=(flatV (.slice p3 3 c3)).toList) rfl (range_blk (setRow_heap _ _ _ _ _ _ HX2.out))
 refine (HO.out.same fun k hk=>setRow_other _ _ k _ (fun e=>?_)).base (fun k hk=>Nat.le_trans (Nat.le_of_lt HK.out) (HO.out.lt hk).1);have:=(HO.out.lt hk).1;have:=HK.out;omega
end hp
end Go.Proofs.YtpnlnbolhkcnjaaGreat
