/- Texts of this seat, one behind the other: TmY. No condition beyond theirs. -/
import Derived.Deep.QuietTactic
import Derived.BigQuiet
import Derived.Test.YtfbggmbmgohiiaaGreatK09
import Derived.Test.YtfbggmbmgohiiaaGreatK05
set_option linter.unusedSimpArgs false
set_option linter.unusedVariables false
set_option maxHeartbeats 4000000
set_option maxRecDepth 100000
namespace Go.Proofs.YtfbggmbmgohiiaaGreat.tm
open Go.RowKit mem names
theorem takeB (x:ByteArray) (q:Nat):(x.extract 0 q).data.toList = x.data.toList.take q:=by
 rw [ByteArray.data_extract,Array.toList_extract];simp
theorem bitsC_eq (f1 f2:TF) (n q lf:Nat) (hn:(n:Int) = min f1.bits f2.bits) (hq:n / 8 = q) (hl:n % 8 = lf) :
 bitsC f1 f2 = (if cmpB (f1.bytes.extract 0 q) (f2.bytes.extract 0 q) = 0 then
  (if lf = 0 then cmpI f1.bits f2.bits else
    (if cmpI ((f1.bytes.data.toList.getD q 0).toNat / 2 ^ (8 - lf):Nat) ((f2.bytes.data.toList.getD q 0).toNat / 2 ^ (8 - lf):Nat) = 0 then cmpI f1.bits f2.bits else cmpI ((f1.bytes.data.toList.getD q 0).toNat / 2 ^ (8 - lf):Nat) ((f2.bytes.data.toList.getD q 0).toNat / 2 ^ (8 - lf):Nat)))
  else cmpB (f1.bytes.extract 0 q) (f2.bytes.extract 0 q)):=by
 unfold bitsC cmpB
 dsimp only
 rw [takeB,takeB,show (min f1.bits f2.bits).toNat = n by omega,hq,hl]
theorem nine_drew {w:World} {z:Nat} {f:TF} {v:Value} (h:Nine w z f v):Nine w.drew z f v:=⟨h.c0,h.c1,h.c2,h.c3,h.c4,h.c5,h.c6,h.c7,h.c8,h.fz⟩
theorem boxes2 (w:World) (f1 f2:TF) (v1 v2:Value):Nine ((w.alloc (cells9 f1 v1)).alloc (cells9 f2 v2)) w.heap.size f1 v1∧Nine ((w.alloc (cells9 f1 v1)).alloc (cells9 f2 v2)) (w.heap.size + 1) f2 v2∧Below w.heap.size w ((w.alloc (cells9 f1 v1)).alloc (cells9 f2 v2))∧((w.alloc (cells9 f1 v1)).alloc (cells9 f2 v2)).heap.size = w.heap.size + 2:=by
 have h1:=(MapKept.heap_alloc w (cells9 f1 v1)).1
 have h2:=(MapKept.heap_alloc (w.alloc (cells9 f1 v1)) (cells9 f2 v2)).1
 have h3:((w.alloc (cells9 f1 v1)).alloc (cells9 f2 v2)).heap[w.heap.size]? = some (cells9 f1 v1):=by rw [Below.heap_alloc _ _ _ (by simp)];exact h1
 exact ⟨nine_of h3,nine_of (by simpa using h2),((Below.refl _ _).alloc (Nat.le_refl _) _).alloc (by simp) _,by simp⟩
theorem bitsW1 (k1 i1 g1 k2 i2 g2 a b:Int) (nm1 fn1 nm2 fn2 x y:ByteArray) (ar1 ar2:Int) (p1 p2:Option Addr) (m1 c1 m2 c2:Nat) (w:World) (h1:0 ≤ a∧a ≤ 16384) (h2:0 ≤ b∧b ≤ 16384) (s1:(x.size:Int) = (a + 7) / 8) (s2:(y.size:Int) = (b + 7) / 8) (hab:a ≤ b) :
 Calls Tryz.prog 133 #[aggV ⟨k1,i1,g1,nm1,fn1,ar1,x,a⟩ (.slice p1 m1 c1),aggV ⟨k2,i2,g2,nm2,fn2,ar2,y,b⟩ (.slice p2 m2 c2)] w (IPostC (bitsC ⟨k1,i1,g1,nm1,fn1,ar1,x,a⟩ ⟨k2,i2,g2,nm2,fn2,ar2,y,b⟩) w):=by
 obtain ⟨n,hn⟩:∃ n:Nat,(n:Int) = a:=⟨(a).toNat,by omega⟩
 obtain ⟨q,hq⟩:∃ q:Nat,n / 8 = q:=⟨_,rfl⟩
 obtain ⟨lf,hl⟩:∃ lf:Nat,n % 8 = lf:=⟨_,rfl⟩
 have HR:=Lib.hid (bitsC_eq ⟨k1,i1,g1,nm1,fn1,ar1,x,a⟩ ⟨k2,i2,g2,nm2,fn2,ar2,y,b⟩ n q lf (by dsimp only;omega) hq hl)
 generalize bitsC ⟨k1,i1,g1,nm1,fn1,ar1,x,a⟩ ⟨k2,i2,g2,nm2,fn2,ar2,y,b⟩ = r at *
 dsimp only at HR
 have hd8:a / 8 = (q:Int):=by omega
 have hm8:a % 8 = (lf:Int):=by omega
 have htd:(a).tdiv 8 = (q:Int):=by rw [Int.tdiv_eq_ediv_of_nonneg (by omega)];exact hd8
 have htm:(a).tmod 8 = (lf:Int):=by rw [Int.tmod_eq_emod_of_nonneg (by omega)];exact hm8
 have hqb:(q:Int) ≤ 2048:=by omega
 have hq0:(0:Int) ≤ (q:Int):=by omega
 have hwq:IntKind.i64.wrap (q:Int) = q:=IntWalk.i64_in _ (by omega)
 have hlf:lf < 8:=by omega
 have hlfi:(lf:Int) < 8:=by omega
 have hlf0:(0:Int) ≤ (lf:Int):=by omega
 have hma:(0:Int) ≤ a:=by omega
 have hx:q ≤ x.size:=by omega
 have hy:q ≤ y.size:=by omega
 have hxi:(q:Int) ≤ (x.size:Int):=by omega
 have hyi:(q:Int) ≤ (y.size:Int):=by omega
 have hx2:lf ≠ 0→q < x.size∧q < y.size:=by omega
 have HX2:=Lib.hid hx2
 have hCS:=Lib.hid (fun W=>cmpString (x.extract 0 q) (y.extract 0 q) W)
 have hCI:=Lib.hid (fun W=>cmpInt a b W)
 clear hn hq hl hx2 s1 s2 h1 h2
 unfold aggV
 dsimp only
 generalize cmpB (x.extract 0 q) (y.extract 0 q) = z at *
 generalize cmpI a b = zi at *
 go_enter Tryz.func133,Tryz.ntmps133
 go_wp2_with fail
 obtain ⟨hN1,hN2,hbw,hsz⟩:=boxes2 w ⟨k1,i1,g1,nm1,fn1,ar1,x,a⟩ ⟨k2,i2,g2,nm2,fn2,ar2,y,b⟩ (.slice p1 m1 c1) (.slice p2 m2 c2)
 unfold cells9 at hN1 hN2 hbw hsz
 dsimp only at hN1 hN2 hbw hsz
 generalize ((w.alloc (.cells #[.int .i64 k1,.int .i64 i1,.int .i64 g1,.string nm1,.string fn1,.int .i64 ar1,.slice p1 m1 c1,.string x,.int .i64 a] 24)).alloc (.cells #[.int .i64 k2,.int .i64 i2,.int .i64 g2,.string nm2,.string fn2,.int .i64 ar2,.slice p2 m2 c2,.string y,.int .i64 b] 24)) = W0 at *
 clear hsz
 have HN1:=Lib.hid hN1
 have HN2:=Lib.hid hN2
 obtain ⟨x0,x1,x2,x3,x4,x5,x6,x7,x8,xz⟩:=hN1
 obtain ⟨y0,y1,y2,y3,y4,y5,y6,y7,y8,yz⟩:=hN2
 dsimp only at x0 x1 x2 x3 x4 x5 x6 x7 x8 y0 y1 y2 y3 y4 y5 y6 y7 y8
 go_still_tail 8,(by kernel_rfl)
 change wpList _ _ _ _ _ W0.drew
 have hN1:=nine_drew HN1.out
 have hN2:=nine_drew HN2.out
 have hbw1:=hbw.drewN 1
 clear x0 x1 x2 x3 x4 x5 x6 x7 x8 xz y0 y1 y2 y3 y4 y5 y6 y7 y8 yz HN1 HN2 hbw
 change Below w.heap.size w W0.drew at hbw1
 generalize W0.drew = W1 at *
 have HN1:=Lib.hid hN1
 have HN2:=Lib.hid hN2
 obtain ⟨x0,x1,x2,x3,x4,x5,x6,x7,x8,xz⟩:=hN1
 obtain ⟨y0,y1,y2,y3,y4,y5,y6,y7,y8,yz⟩:=hN2
 dsimp only at x0 x1 x2 x3 x4 x5 x6 x7 x8 y0 y1 y2 y3 y4 y5 y6 y7 y8
 go_wp2_with fail
 refine (hCS.out _).mono ?_
 rintro e w' ⟨rfl,rfl⟩
 by_cases hz:z = 0
 ·subst hz
  have hr:=HR.out
  rw [if_pos rfl] at hr
  clear HR
  by_cases h0:lf = 0
  ·subst h0
   rw [if_pos rfl] at hr
   have HR:=Lib.hid hr
   clear hr
   go_wp2_with fail
   refine (hCI.out _).mono ?_
   rintro e w' ⟨rfl,rfl⟩
   go_wp2_with fail
   go_ret
   exact ⟨ret1i HR.out.symm,hbw1⟩
  ·rw [if_neg h0] at hr
   obtain ⟨hx2,hy2⟩:=HX2.out h0
   have hgx:x.data.toList.getD q 0 = x[q]'hx2:=by
    rw [List.getD_eq_getElem?_getD,List.getElem?_eq_getElem (by rw [Array.length_toList];exact hx2)];rfl
   have hgy:y.data.toList.getD q 0 = y[q]'hy2:=by
    rw [List.getD_eq_getElem?_getD,List.getElem?_eq_getElem (by rw [Array.length_toList];exact hy2)];rfl
   rw [hgx,hgy] at hr
   have hix:∀ w:World,(Instr.index 9 (.string x) (.int .i64 (q:Int))).run Tryz.prog w = .ok (.int .u8 ((x[q]'hx2).toNat:Int)) w:=fun w=>by
    rw [run_index_string w 9 x .i64 (q:Int) Tryz.underlying9,dif_pos ⟨by omega,by omega⟩];rfl
   have hiy:∀ w:World,(Instr.index 9 (.string y) (.int .i64 (q:Int))).run Tryz.prog w = .ok (.int .u8 ((y[q]'hy2).toNat:Int)) w:=fun w=>by
    rw [run_index_string w 9 y .i64 (q:Int) Tryz.underlying9,dif_pos ⟨by omega,by omega⟩];rfl
   have hbx:(x[q]'hx2).toNat < 256:=UInt8.toNat_lt _
   have hby:(y[q]'hy2).toNat < 256:=UInt8.toNat_lt _
   clear hgx hgy
   generalize (x[q]'hx2).toNat = bx at *
   generalize (y[q]'hy2).toNat = byy at *
   have hCb:=fun W=>cmpByte ((bx / 2 ^ (8 - lf):Nat):Int) ((byy / 2 ^ (8 - lf):Nat):Int) W
   generalize cmpI ((bx / 2 ^ (8 - lf):Nat):Int) ((byy / 2 ^ (8 - lf):Nat):Int) = zz at *
   have HR:=Lib.hid hr
   clear hr
   rcases (show lf = 1∨lf = 2∨lf = 3∨lf = 4∨lf = 5∨lf = 6∨lf = 7 by omega) with rfl | rfl | rfl | rfl | rfl | rfl | rfl
   all_goals
    clear h0 HX2 hx hy hxi hyi hlf hlfi hlf0
    have HCb:=Lib.hid hCb
    clear hCb
    have hw1:IntKind.i64.wrap 1 = 1:=by decide
    have hw2:IntKind.i64.wrap 2 = 2:=by decide
    have hw3:IntKind.i64.wrap 3 = 3:=by decide
    have hw4:IntKind.i64.wrap 4 = 4:=by decide
    have hw5:IntKind.i64.wrap 5 = 5:=by decide
    have hw6:IntKind.i64.wrap 6 = 6:=by decide
    have hw7:IntKind.i64.wrap 7 = 7:=by decide
    go_wp2_with fail
    go_still_tail 14,(by kernel_rfl)
    change wpList _ _ _ _ _ W1.drew
    have hN1:=nine_drew HN1.out
    have hN2:=nine_drew HN2.out
    have hbw2:Below w.heap.size w W1.drew:=hbw1.drewN 1
    clear x0 x1 x2 x3 x4 x5 x6 x7 x8 xz y0 y1 y2 y3 y4 y5 y6 y7 y8 yz HN1 HN2 hbw1
    generalize W1.drew = W2 at *
    obtain ⟨x0,x1,x2,x3,x4,x5,x6,x7,x8,xz⟩:=hN1
    obtain ⟨y0,y1,y2,y3,y4,y5,y6,y7,y8,yz⟩:=hN2
    dsimp only at x0 x1 x2 x3 x4 x5 x6 x7 x8 y0 y1 y2 y3 y4 y5 y6 y7 y8
    go_wp2_with fail
    refine (HCb.out _).mono ?_
    rintro e w' ⟨rfl,rfl⟩
    by_cases hzz:zz = 0
    ·subst hzz
     go_wp2_with fail
     refine (hCI.out _).mono ?_
     rintro e w' ⟨rfl,rfl⟩
     go_wp2_with fail
     go_ret
     exact ⟨ret1i (by rw [HR.out];simp),hbw2⟩
    ·have qz:(zz != 0) = true:=by simp [hzz]
     have HZ:=Lib.hid hzz
     clear hzz
     go_wp2_with fail
     go_ret
     exact ⟨ret1i (by rw [HR.out,if_neg HZ.out]),hbw2⟩
 ·have qz:(z != 0) = true:=by simp [hz]
  have hr:=HR.out
  rw [if_neg hz] at hr
  have HR:=Lib.hid hr
  clear hr hz
  go_wp2_with fail
  go_ret
  exact ⟨ret1i HR.out.symm,hbw1⟩
theorem bitsW2 (k1 i1 g1 k2 i2 g2 a b:Int) (nm1 fn1 nm2 fn2 x y:ByteArray) (ar1 ar2:Int) (p1 p2:Option Addr) (m1 c1 m2 c2:Nat) (w:World) (h1:0 ≤ a∧a ≤ 16384) (h2:0 ≤ b∧b ≤ 16384) (s1:(x.size:Int) = (a + 7) / 8) (s2:(y.size:Int) = (b + 7) / 8) (hab:b < a) :
 Calls Tryz.prog 133 #[aggV ⟨k1,i1,g1,nm1,fn1,ar1,x,a⟩ (.slice p1 m1 c1),aggV ⟨k2,i2,g2,nm2,fn2,ar2,y,b⟩ (.slice p2 m2 c2)] w (IPostC (bitsC ⟨k1,i1,g1,nm1,fn1,ar1,x,a⟩ ⟨k2,i2,g2,nm2,fn2,ar2,y,b⟩) w):=by
 obtain ⟨n,hn⟩:∃ n:Nat,(n:Int) = b:=⟨(b).toNat,by omega⟩
 obtain ⟨q,hq⟩:∃ q:Nat,n / 8 = q:=⟨_,rfl⟩
 obtain ⟨lf,hl⟩:∃ lf:Nat,n % 8 = lf:=⟨_,rfl⟩
 have HR:=Lib.hid (bitsC_eq ⟨k1,i1,g1,nm1,fn1,ar1,x,a⟩ ⟨k2,i2,g2,nm2,fn2,ar2,y,b⟩ n q lf (by dsimp only;omega) hq hl)
 generalize bitsC ⟨k1,i1,g1,nm1,fn1,ar1,x,a⟩ ⟨k2,i2,g2,nm2,fn2,ar2,y,b⟩ = r at *
 dsimp only at HR
 have hd8:b / 8 = (q:Int):=by omega
 have hm8:b % 8 = (lf:Int):=by omega
 have htd:(b).tdiv 8 = (q:Int):=by rw [Int.tdiv_eq_ediv_of_nonneg (by omega)];exact hd8
 have htm:(b).tmod 8 = (lf:Int):=by rw [Int.tmod_eq_emod_of_nonneg (by omega)];exact hm8
 have hqb:(q:Int) ≤ 2048:=by omega
 have hq0:(0:Int) ≤ (q:Int):=by omega
 have hwq:IntKind.i64.wrap (q:Int) = q:=IntWalk.i64_in _ (by omega)
 have hlf:lf < 8:=by omega
 have hlfi:(lf:Int) < 8:=by omega
 have hlf0:(0:Int) ≤ (lf:Int):=by omega
 have hma:(0:Int) ≤ b:=by omega
 have hx:q ≤ x.size:=by omega
 have hy:q ≤ y.size:=by omega
 have hxi:(q:Int) ≤ (x.size:Int):=by omega
 have hyi:(q:Int) ≤ (y.size:Int):=by omega
 have hx2:lf ≠ 0→q < x.size∧q < y.size:=by omega
 have HX2:=Lib.hid hx2
 have hCS:=Lib.hid (fun W=>cmpString (x.extract 0 q) (y.extract 0 q) W)
 have hCI:=Lib.hid (fun W=>cmpInt a b W)
 clear hn hq hl hx2 s1 s2 h1 h2
 unfold aggV
 dsimp only
 generalize cmpB (x.extract 0 q) (y.extract 0 q) = z at *
 generalize cmpI a b = zi at *
 go_enter Tryz.func133,Tryz.ntmps133
 go_wp2_with fail
 obtain ⟨hN1,hN2,hbw,hsz⟩:=boxes2 w ⟨k1,i1,g1,nm1,fn1,ar1,x,a⟩ ⟨k2,i2,g2,nm2,fn2,ar2,y,b⟩ (.slice p1 m1 c1) (.slice p2 m2 c2)
 unfold cells9 at hN1 hN2 hbw hsz
 dsimp only at hN1 hN2 hbw hsz
 generalize ((w.alloc (.cells #[.int .i64 k1,.int .i64 i1,.int .i64 g1,.string nm1,.string fn1,.int .i64 ar1,.slice p1 m1 c1,.string x,.int .i64 a] 24)).alloc (.cells #[.int .i64 k2,.int .i64 i2,.int .i64 g2,.string nm2,.string fn2,.int .i64 ar2,.slice p2 m2 c2,.string y,.int .i64 b] 24)) = W0 at *
 clear hsz
 have HN1:=Lib.hid hN1
 have HN2:=Lib.hid hN2
 obtain ⟨x0,x1,x2,x3,x4,x5,x6,x7,x8,xz⟩:=hN1
 obtain ⟨y0,y1,y2,y3,y4,y5,y6,y7,y8,yz⟩:=hN2
 dsimp only at x0 x1 x2 x3 x4 x5 x6 x7 x8 y0 y1 y2 y3 y4 y5 y6 y7 y8
 go_still_tail 8,(by kernel_rfl)
 change wpList _ _ _ _ _ W0.drew
 have hN1:=nine_drew HN1.out
 have hN2:=nine_drew HN2.out
 have hbw1:=hbw.drewN 1
 clear x0 x1 x2 x3 x4 x5 x6 x7 x8 xz y0 y1 y2 y3 y4 y5 y6 y7 y8 yz HN1 HN2 hbw
 change Below w.heap.size w W0.drew at hbw1
 generalize W0.drew = W1 at *
 have HN1:=Lib.hid hN1
 have HN2:=Lib.hid hN2
 obtain ⟨x0,x1,x2,x3,x4,x5,x6,x7,x8,xz⟩:=hN1
 obtain ⟨y0,y1,y2,y3,y4,y5,y6,y7,y8,yz⟩:=hN2
 dsimp only at x0 x1 x2 x3 x4 x5 x6 x7 x8 y0 y1 y2 y3 y4 y5 y6 y7 y8
 go_wp2_with fail
 refine (hCS.out _).mono ?_
 rintro e w' ⟨rfl,rfl⟩
 by_cases hz:z = 0
 ·subst hz
  have hr:=HR.out
  rw [if_pos rfl] at hr
  clear HR
  by_cases h0:lf = 0
  ·subst h0
   rw [if_pos rfl] at hr
   have HR:=Lib.hid hr
   clear hr
   go_wp2_with fail
   refine (hCI.out _).mono ?_
   rintro e w' ⟨rfl,rfl⟩
   go_wp2_with fail
   go_ret
   exact ⟨ret1i HR.out.symm,hbw1⟩
  ·rw [if_neg h0] at hr
   obtain ⟨hx2,hy2⟩:=HX2.out h0
   have hgx:x.data.toList.getD q 0 = x[q]'hx2:=by
    rw [List.getD_eq_getElem?_getD,List.getElem?_eq_getElem (by rw [Array.length_toList];exact hx2)];rfl
   have hgy:y.data.toList.getD q 0 = y[q]'hy2:=by
    rw [List.getD_eq_getElem?_getD,List.getElem?_eq_getElem (by rw [Array.length_toList];exact hy2)];rfl
   rw [hgx,hgy] at hr
   have hix:∀ w:World,(Instr.index 9 (.string x) (.int .i64 (q:Int))).run Tryz.prog w = .ok (.int .u8 ((x[q]'hx2).toNat:Int)) w:=fun w=>by
    rw [run_index_string w 9 x .i64 (q:Int) Tryz.underlying9,dif_pos ⟨by omega,by omega⟩];rfl
   have hiy:∀ w:World,(Instr.index 9 (.string y) (.int .i64 (q:Int))).run Tryz.prog w = .ok (.int .u8 ((y[q]'hy2).toNat:Int)) w:=fun w=>by
    rw [run_index_string w 9 y .i64 (q:Int) Tryz.underlying9,dif_pos ⟨by omega,by omega⟩];rfl
   have hbx:(x[q]'hx2).toNat < 256:=UInt8.toNat_lt _
   have hby:(y[q]'hy2).toNat < 256:=UInt8.toNat_lt _
   clear hgx hgy
   generalize (x[q]'hx2).toNat = bx at *
   generalize (y[q]'hy2).toNat = byy at *
   have hCb:=fun W=>cmpByte ((bx / 2 ^ (8 - lf):Nat):Int) ((byy / 2 ^ (8 - lf):Nat):Int) W
   generalize cmpI ((bx / 2 ^ (8 - lf):Nat):Int) ((byy / 2 ^ (8 - lf):Nat):Int) = zz at *
   have HR:=Lib.hid hr
   clear hr
   rcases (show lf = 1∨lf = 2∨lf = 3∨lf = 4∨lf = 5∨lf = 6∨lf = 7 by omega) with rfl | rfl | rfl | rfl | rfl | rfl | rfl
   all_goals
    clear h0 HX2 hx hy hxi hyi hlf hlfi hlf0
    have HCb:=Lib.hid hCb
    clear hCb
    have hw1:IntKind.i64.wrap 1 = 1:=by decide
    have hw2:IntKind.i64.wrap 2 = 2:=by decide
    have hw3:IntKind.i64.wrap 3 = 3:=by decide
    have hw4:IntKind.i64.wrap 4 = 4:=by decide
    have hw5:IntKind.i64.wrap 5 = 5:=by decide
    have hw6:IntKind.i64.wrap 6 = 6:=by decide
    have hw7:IntKind.i64.wrap 7 = 7:=by decide
    go_wp2_with fail
    go_still_tail 14,(by kernel_rfl)
    change wpList _ _ _ _ _ W1.drew
    have hN1:=nine_drew HN1.out
    have hN2:=nine_drew HN2.out
    have hbw2:Below w.heap.size w W1.drew:=hbw1.drewN 1
    clear x0 x1 x2 x3 x4 x5 x6 x7 x8 xz y0 y1 y2 y3 y4 y5 y6 y7 y8 yz HN1 HN2 hbw1
    generalize W1.drew = W2 at *
    obtain ⟨x0,x1,x2,x3,x4,x5,x6,x7,x8,xz⟩:=hN1
    obtain ⟨y0,y1,y2,y3,y4,y5,y6,y7,y8,yz⟩:=hN2
    dsimp only at x0 x1 x2 x3 x4 x5 x6 x7 x8 y0 y1 y2 y3 y4 y5 y6 y7 y8
    go_wp2_with fail
    refine (HCb.out _).mono ?_
    rintro e w' ⟨rfl,rfl⟩
    by_cases hzz:zz = 0
    ·subst hzz
     go_wp2_with fail
     refine (hCI.out _).mono ?_
     rintro e w' ⟨rfl,rfl⟩
     go_wp2_with fail
     go_ret
     exact ⟨ret1i (by rw [HR.out];simp),hbw2⟩
    ·have qz:(zz != 0) = true:=by simp [hzz]
     have HZ:=Lib.hid hzz
     clear hzz
     go_wp2_with fail
     go_ret
     exact ⟨ret1i (by rw [HR.out,if_neg HZ.out]),hbw2⟩
 ·have qz:(z != 0) = true:=by simp [hz]
  have hr:=HR.out
  rw [if_neg hz] at hr
  have HR:=Lib.hid hr
  clear hr hz
  go_wp2_with fail
  go_ret
  exact ⟨ret1i HR.out.symm,hbw1⟩
theorem bitsW (f1 f2:TF) (p1 p2:Option Addr) (m1 c1 m2 c2:Nat) (w:World) (h1:0 ≤ f1.bits∧f1.bits ≤ 16384) (h2:0 ≤ f2.bits∧f2.bits ≤ 16384) (s1:(f1.bytes.size:Int) = (f1.bits + 7) / 8) (s2:(f2.bytes.size:Int) = (f2.bits + 7) / 8) :
 Calls Tryz.prog 133 #[aggV f1 (.slice p1 m1 c1),aggV f2 (.slice p2 m2 c2)] w (IPostC (bitsC f1 f2) w):=by
 obtain ⟨k1,i1,g1,nm1,fn1,ar1,x,a⟩:=f1
 obtain ⟨k2,i2,g2,nm2,fn2,ar2,y,b⟩:=f2
 by_cases h:a ≤ b
 ·exact bitsW1 k1 i1 g1 k2 i2 g2 a b nm1 fn1 nm2 fn2 x y ar1 ar2 p1 p2 m1 c1 m2 c2 w h1 h2 s1 s2 h
 ·exact bitsW2 k1 i1 g1 k2 i2 g2 a b nm1 fn1 nm2 fn2 x y ar1 ar2 p1 p2 m1 c1 m2 c2 w h1 h2 s1 s2 (by omega)
end Go.Proofs.YtfbggmbmgohiiaaGreat.tm
