/- TmE,TmF,TmG. No condition beyond theirs. -/
import Derived.Test.YtpnlnbolhkcnjaaGreatP07
set_option linter.unusedSimpArgs false
set_option linter.unusedVariables false
set_option maxHeartbeats 1000000
set_option maxRecDepth 100000
namespace Go
theorem RowKit.Below.drewN {B:Nat} {a w:World} (h:RowKit.Below B a w) (n:Nat):RowKit.Below B a (w.drewN n):=⟨h.os,h.tape,h.output,h.size,h.block⟩
end Go
namespace Go.Proofs.YtpnlnbolhkcnjaaGreat.tm
open Go.RowKit mem names
def inB (n a b:Int):Bool:=decide (a ≤ n∧n ≤ b)
theorem inB_t {n a b:Int} (h:a ≤ n∧n ≤ b):inB n a b = true:=decide_eq_true h
theorem inB_f {n a b:Int} (h:¬ (a ≤ n∧n ≤ b)):inB n a b = false:=decide_eq_false h
theorem within (n a b:Int) (w:World):Calls Tryz.prog 255 #[.int .i64 n,.int .i64 a,.int .i64 b] w fun e w'=>e = .returned (.bool (inB n a b))∧w = w':=by
 by_cases h1:a ≤ n
 ·by_cases h2:n ≤ b
  ·rw [inB_t ⟨h1,h2⟩];have q1:decide (a ≤ n) = true:=decide_eq_true h1;have q2:decide (n ≤ b) = true:=decide_eq_true h2;go_enter Tryz.func255,Tryz.ntmps255;go_wp2_with fail;go_ret;exact ⟨rfl,rfl⟩
  ·rw [inB_f (fun h=>h2 h.2)];have q1:decide (a ≤ n) = true:=decide_eq_true h1;have q2:decide (n ≤ b) = false:=decide_eq_false h2;go_enter Tryz.func255,Tryz.ntmps255;go_wp2_with fail;go_ret;exact ⟨rfl,rfl⟩
 ·rw [inB_f (fun h=>h1 h.1)];have q1:decide (a ≤ n) = false:=decide_eq_false h1;go_enter Tryz.func255,Tryz.ntmps255;go_wp2_with fail;go_ret;exact ⟨rfl,rfl⟩
def zeroF:TF:=⟨0,0,0,⟨#[]⟩,⟨#[]⟩,0,⟨#[]⟩,0⟩
def nilV:Value:=.slice none 0 0
def lastByte (s:ByteArray):Nat:=(s.data.toList.getLastD 0).toNat
def okBits (f:TF):Bool:=inB f.bits 0 16384 && decide ((f.bytes.size:Int) = (f.bits + 7) / 8) && decide (f.bits % 8 = 0∨lastByte f.bytes % 2 ^ (8 - (f.bits % 8).toNat) = 0)
def okF (f:TF) (n:Nat) (last:Int):Bool :=
 if f.kind = 1∨f.kind = 8 then true
 else if f.kind = 2 then vName f.name
 else if f.kind = 3∨f.kind = 6 then inB f.int 1 2147483647 && (inB f.gen 1 2147483647 && vName f.name)
 else if f.kind = 4 then inB f.int 0 999 && (inB f.gen 1 2147483647 && (vName f.name && (inB f.arity 0 16 && decide (n ≤ 200))))
 else if f.kind = 5 then vName f.name && (vName f.func && inB f.arity 0 16)
 else if f.kind = 7 then decide (n ≤ 255)
 else if f.kind = 9 then decide (2 ≤ n) && decide (last ≠ 9)
 else if f.kind = 10 then okBits f
 else false
def bareF (f:TF):TF :=
 if f.kind = 1 then { f with int:=0 }
 else if f.kind = 2 then { f with name:=⟨#[]⟩ }
 else if f.kind = 3∨f.kind = 6 then { f with int:=0,gen:=0,name:=⟨#[]⟩ }
 else if f.kind = 4 then { f with int:=0,gen:=0,name:=⟨#[]⟩,arity:=0 }
 else if f.kind = 5 then { f with name:=⟨#[]⟩,func:=⟨#[]⟩,arity:=0 }
 else if f.kind = 10 then { f with bytes:=⟨#[]⟩,bits:=0 }
 else f
def bareV (f:TF) (v:Value):Value:=if f.kind = 4∨f.kind = 7∨f.kind = 9 then nilV else v
def KPost (f:TF) (v:Value) (n:Nat) (last:Int) (w:World) (e:Ending) (w':World):Prop:=e = .returned (.tuple #[aggV (bareF f) (bareV f v),.bool (okF f n last)])∧Below w.heap.size w w'
def cells9 (f:TF) (v:Value):Obj:=.cells #[.int .i64 f.kind,.int .i64 f.int,.int .i64 f.gen,.string f.name,.string f.func,.int .i64 f.arity,v,.string f.bytes,.int .i64 f.bits] 38
structure Nine (w:World) (z:Nat) (f:TF) (v:Value):Prop where
 c0:w.cell? ⟨z,0,none⟩ = some (.int .i64 f.kind)
 c1:w.cell? ⟨z,1,none⟩ = some (.int .i64 f.int)
 c2:w.cell? ⟨z,2,none⟩ = some (.int .i64 f.gen)
 c3:w.cell? ⟨z,3,none⟩ = some (.string f.name)
 c4:w.cell? ⟨z,4,none⟩ = some (.string f.func)
 c5:w.cell? ⟨z,5,none⟩ = some (.int .i64 f.arity)
 c6:w.cell? ⟨z,6,none⟩ = some v
 c7:w.cell? ⟨z,7,none⟩ = some (.string f.bytes)
 c8:w.cell? ⟨z,8,none⟩ = some (.int .i64 f.bits)
 fz:∀ o,w.frozen? ⟨z,o,none⟩ = false
theorem nine_of {w:World} {z:Nat} {f:TF} {v:Value} (h:w.heap[z]? = some (cells9 f v)):Nine w z f v:=by
 unfold cells9 at h;refine ⟨?_,?_,?_,?_,?_,?_,?_,?_,?_,fun o=>by simp only [World.frozen?,h];simp⟩ <;> (simp only [World.cell?,h];rfl)
theorem two_box {w w1:World} {f:TF} {v:Value} (hb:Below ((w.alloc (cells9 f v)).alloc (cells9 zeroF nilV)).heap.size ((w.alloc (cells9 f v)).alloc (cells9 zeroF nilV)) w1):Nine w1 w.heap.size f v∧Nine w1 (w.heap.size + 1) zeroF nilV∧Below w.heap.size w w1:=by
 have h1:=(MapKept.heap_alloc w (cells9 f v)).1;have h2:=(MapKept.heap_alloc (w.alloc (cells9 f v)) (cells9 zeroF nilV)).1;have h3:((w.alloc (cells9 f v)).alloc (cells9 zeroF nilV)).heap[w.heap.size]? = some (cells9 f v):=by rw [Below.heap_alloc _ _ _ (by simp)];exact h1
 refine ⟨nine_of ((hb.block _ (by simp;omega)).trans h3),nine_of ((hb.block _ (by simp)).trans (by simpa using h2)),?_⟩;exact (((Below.refl _ w).alloc (Nat.le_refl _) _).alloc (by simp) _).trans (hb.mono (by simp;omega))
theorem Nine.below {w w1:World} {z B:Nat} {f:TF} {v:Value} (h:Nine w z f v) (hb:Below B w w1) (hz:z < B):Nine w1 z f v:=by
 obtain ⟨h0,h1,h2,h3,h4,h5,h6,h7,h8,hz'⟩:=h;have c:=fun o=>hb.cell (p:=⟨z,o,none⟩) hz;exact ⟨(c 0).trans h0,(c 1).trans h1,(c 2).trans h2,(c 3).trans h3,(c 4).trans h4,(c 5).trans h5,(c 6).trans h6,(c 7).trans h7,(c 8).trans h8,fun o=>(hb.frozen (p:=⟨z,o,none⟩) hz).trans (hz' o)⟩
theorem kind0 (i g:Int) (nm fn:ByteArray) (ar:Int) (by_:ByteArray) (bt:Int) (p:Option Addr) (n c:Nat) (last:Int) (w:World) (hn:n ≤ c) (hc:c ≤ 9223372036854775807):Calls Tryz.prog 256 #[aggV ⟨0,i,g,nm,fn,ar,by_,bt⟩ (.slice p n c)] w (KPost ⟨0,i,g,nm,fn,ar,by_,bt⟩ (.slice p n c) n last w):=by
 have hb:bareF ⟨0,i,g,nm,fn,ar,by_,bt⟩ = ⟨0,i,g,nm,fn,ar,by_,bt⟩:=by simp [bareF]
 have hv:bareV ⟨0,i,g,nm,fn,ar,by_,bt⟩ (.slice p n c) = Value.slice p n c:=by simp [bareV,nilV]
 have ho:okF ⟨0,i,g,nm,fn,ar,by_,bt⟩ n last = (false):=by simp [okF]
 unfold KPost;rw [hb,hv,ho];unfold aggV;dsimp only;clear hb hv ho;go_enter Tryz.func256,Tryz.ntmps256;go_wp2_with fail;exact bodyPost_ret (v:=(.tuple #[.agg #[.int .i64 0,.int .i64 i,.int .i64 g,.string nm,.string fn,.int .i64 ar,Value.slice p n c,.string by_,.int .i64 bt],.bool false])) (by simp [results,Tryz.results256,go_sem, *]) rfl ⟨by simp,by (repeat' (first | with_reducible exact hb | with_reducible exact Below.refl _ _ | with_reducible exact Nat.le_refl _ | with_reducible refine Below.setCell ?_ ?_ _ | with_reducible refine Below.alloc ?_ ?_ _ | (simp;done) | (simp;omega)))⟩
theorem kindInt (i g:Int) (nm fn:ByteArray) (ar:Int) (by_:ByteArray) (bt:Int) (p:Option Addr) (n c:Nat) (last:Int) (w:World) (hn:n ≤ c) (hc:c ≤ 9223372036854775807):Calls Tryz.prog 257 #[aggV ⟨1,i,g,nm,fn,ar,by_,bt⟩ (.slice p n c)] w (KPost ⟨1,i,g,nm,fn,ar,by_,bt⟩ (.slice p n c) n last w):=by
 have hb:bareF ⟨1,i,g,nm,fn,ar,by_,bt⟩ = ⟨1,0,g,nm,fn,ar,by_,bt⟩:=by simp [bareF]
 have hv:bareV ⟨1,i,g,nm,fn,ar,by_,bt⟩ (.slice p n c) = Value.slice p n c:=by simp [bareV,nilV]
 have ho:okF ⟨1,i,g,nm,fn,ar,by_,bt⟩ n last = (true):=by simp [okF]
 unfold KPost;rw [hb,hv,ho];unfold aggV;dsimp only;clear hb hv ho;go_enter Tryz.func257,Tryz.ntmps257;go_wp2_with fail;exact bodyPost_ret (v:=(.tuple #[.agg #[.int .i64 1,.int .i64 0,.int .i64 g,.string nm,.string fn,.int .i64 ar,Value.slice p n c,.string by_,.int .i64 bt],.bool true])) (by simp [results,Tryz.results257,go_sem, *]) rfl ⟨by simp,by (repeat' (first | with_reducible exact hb | with_reducible exact Below.refl _ _ | with_reducible exact Nat.le_refl _ | with_reducible refine Below.setCell ?_ ?_ _ | with_reducible refine Below.alloc ?_ ?_ _ | (simp;done) | (simp;omega)))⟩
theorem kindAtom (i g:Int) (nm fn:ByteArray) (ar:Int) (by_:ByteArray) (bt:Int) (p:Option Addr) (n c:Nat) (last:Int) (w:World) (hn:n ≤ c) (hc:c ≤ 9223372036854775807):Calls Tryz.prog 258 #[aggV ⟨2,i,g,nm,fn,ar,by_,bt⟩ (.slice p n c)] w (KPost ⟨2,i,g,nm,fn,ar,by_,bt⟩ (.slice p n c) n last w):=by
 have hb:bareF ⟨2,i,g,nm,fn,ar,by_,bt⟩ = ⟨2,i,g,⟨#[]⟩,fn,ar,by_,bt⟩:=by simp [bareF]
 have hv:bareV ⟨2,i,g,nm,fn,ar,by_,bt⟩ (.slice p n c) = Value.slice p n c:=by simp [bareV,nilV]
 have ho:okF ⟨2,i,g,nm,fn,ar,by_,bt⟩ n last = (vName nm):=by simp [okF]
 unfold KPost;rw [hb,hv,ho];unfold aggV;dsimp only;clear hb hv ho
 by_cases h0:(vName nm) = true
 ·have hV0:=fun W=>Valid nm W;rw [h0] at hV0;rw [h0];go_enter Tryz.func258,Tryz.ntmps258;go_wp2_with fail;refine (hV0 _).mono ?_;rintro e w1 ⟨rfl,hb1⟩;have hz:w.heap.size + 1 < w1.heap.size:=by have:=hb1.size;simp at this;omega
  obtain ⟨hA,hR,hb⟩:=two_box (f:=⟨2,i,g,nm,fn,ar,by_,bt⟩) (v:=.slice p n c) hb1;have HA:=Lib.hid hA;have HR:=Lib.hid hR;obtain ⟨a0,a1,a2,a3,a4,a5,a6,a7,a8,az⟩:=hA;obtain ⟨r0,r1,r2,r3,r4,r5,r6,r7,r8,rz⟩:=hR;clear hb1;dsimp only [zeroF,nilV] at a0 a1 a2 a3 a4 a5 a6 a7 a8 r0 r1 r2 r3 r4 r5 r6 r7 r8;go_wp2_with fail
  exact bodyPost_ret (v:=(.tuple #[.agg #[.int .i64 2,.int .i64 i,.int .i64 g,.string ⟨#[]⟩,.string fn,.int .i64 ar,Value.slice p n c,.string by_,.int .i64 bt],.bool true])) (by simp [results,Tryz.results258,go_sem, *]) rfl ⟨by simp,by (repeat' (first | with_reducible exact hb | with_reducible exact Below.refl _ _ | with_reducible exact Nat.le_refl _ | with_reducible refine Below.setCell ?_ ?_ _ | with_reducible refine Below.alloc ?_ ?_ _ | (simp;done) | (simp;omega)))⟩
 ·have h0:(vName nm) = false:=by simpa using h0
  have hV0:=fun W=>Valid nm W;rw [h0] at hV0;rw [h0];go_enter Tryz.func258,Tryz.ntmps258;go_wp2_with fail;refine (hV0 _).mono ?_;rintro e w1 ⟨rfl,hb1⟩;have hz:w.heap.size + 1 < w1.heap.size:=by have:=hb1.size;simp at this;omega
  obtain ⟨hA,hR,hb⟩:=two_box (f:=⟨2,i,g,nm,fn,ar,by_,bt⟩) (v:=.slice p n c) hb1;have HA:=Lib.hid hA;have HR:=Lib.hid hR;obtain ⟨a0,a1,a2,a3,a4,a5,a6,a7,a8,az⟩:=hA;obtain ⟨r0,r1,r2,r3,r4,r5,r6,r7,r8,rz⟩:=hR;clear hb1;dsimp only [zeroF,nilV] at a0 a1 a2 a3 a4 a5 a6 a7 a8 r0 r1 r2 r3 r4 r5 r6 r7 r8;go_wp2_with fail
  exact bodyPost_ret (v:=(.tuple #[.agg #[.int .i64 2,.int .i64 i,.int .i64 g,.string ⟨#[]⟩,.string fn,.int .i64 ar,Value.slice p n c,.string by_,.int .i64 bt],.bool false])) (by simp [results,Tryz.results258,go_sem, *]) rfl ⟨by simp,by (repeat' (first | with_reducible exact hb | with_reducible exact Below.refl _ _ | with_reducible exact Nat.le_refl _ | with_reducible refine Below.setCell ?_ ?_ _ | with_reducible refine Below.alloc ?_ ?_ _ | (simp;done) | (simp;omega)))⟩
theorem kindRef (i g:Int) (nm fn:ByteArray) (ar:Int) (by_:ByteArray) (bt:Int) (p:Option Addr) (n c:Nat) (last:Int) (w:World) (hn:n ≤ c) (hc:c ≤ 9223372036854775807):Calls Tryz.prog 254 #[aggV ⟨3,i,g,nm,fn,ar,by_,bt⟩ (.slice p n c)] w (KPost ⟨3,i,g,nm,fn,ar,by_,bt⟩ (.slice p n c) n last w):=by
 have hb:bareF ⟨3,i,g,nm,fn,ar,by_,bt⟩ = ⟨3,0,0,⟨#[]⟩,fn,ar,by_,bt⟩:=by simp [bareF]
 have hv:bareV ⟨3,i,g,nm,fn,ar,by_,bt⟩ (.slice p n c) = Value.slice p n c:=by simp [bareV,nilV]
 have ho:okF ⟨3,i,g,nm,fn,ar,by_,bt⟩ n last = (inB i 1 2147483647 && (inB g 1 2147483647 && (vName nm))):=by simp [okF]
 unfold KPost;rw [hb,hv,ho];unfold aggV;dsimp only;clear hb hv ho
 by_cases h0:(inB i 1 2147483647) = true
 ·by_cases h1:(inB g 1 2147483647) = true
  ·by_cases h2:(vName nm) = true
   ·have hw0:=fun W=>within i 1 2147483647 W;rw [h0] at hw0;have hw1:=fun W=>within g 1 2147483647 W;rw [h1] at hw1;have hV2:=fun W=>Valid nm W;rw [h2] at hV2;rw [h0,h1,h2];go_enter Tryz.func254,Tryz.ntmps254;go_wp2_with fail;refine (hw0 _).mono ?_;rintro e w' ⟨rfl,rfl⟩;go_wp2_with fail;refine (hw1 _).mono ?_;rintro e w' ⟨rfl,rfl⟩;go_wp2_with fail;refine (hV2 _).mono ?_;rintro e w1 ⟨rfl,hb1⟩;have hz:w.heap.size + 1 < w1.heap.size:=by have:=hb1.size;simp at this;omega
    obtain ⟨hA,hR,hb⟩:=two_box (f:=⟨3,i,g,nm,fn,ar,by_,bt⟩) (v:=.slice p n c) hb1;have HA:=Lib.hid hA;have HR:=Lib.hid hR;obtain ⟨a0,a1,a2,a3,a4,a5,a6,a7,a8,az⟩:=hA;obtain ⟨r0,r1,r2,r3,r4,r5,r6,r7,r8,rz⟩:=hR;clear hb1;dsimp only [zeroF,nilV] at a0 a1 a2 a3 a4 a5 a6 a7 a8 r0 r1 r2 r3 r4 r5 r6 r7 r8;go_wp2_with fail
    exact bodyPost_ret (v:=(.tuple #[.agg #[.int .i64 3,.int .i64 0,.int .i64 0,.string ⟨#[]⟩,.string fn,.int .i64 ar,Value.slice p n c,.string by_,.int .i64 bt],.bool true])) (by simp [results,Tryz.results254,go_sem, *]) rfl ⟨by simp,by (repeat' (first | with_reducible exact hb | with_reducible exact Below.refl _ _ | with_reducible exact Nat.le_refl _ | with_reducible refine Below.setCell ?_ ?_ _ | with_reducible refine Below.alloc ?_ ?_ _ | (simp;done) | (simp;omega)))⟩
   ·have h2:(vName nm) = false:=by simpa using h2
    have hw0:=fun W=>within i 1 2147483647 W;rw [h0] at hw0;have hw1:=fun W=>within g 1 2147483647 W;rw [h1] at hw1;have hV2:=fun W=>Valid nm W;rw [h2] at hV2;rw [h0,h1,h2];go_enter Tryz.func254,Tryz.ntmps254;go_wp2_with fail;refine (hw0 _).mono ?_;rintro e w' ⟨rfl,rfl⟩;go_wp2_with fail;refine (hw1 _).mono ?_;rintro e w' ⟨rfl,rfl⟩;go_wp2_with fail;refine (hV2 _).mono ?_;rintro e w1 ⟨rfl,hb1⟩;have hz:w.heap.size + 1 < w1.heap.size:=by have:=hb1.size;simp at this;omega
    obtain ⟨hA,hR,hb⟩:=two_box (f:=⟨3,i,g,nm,fn,ar,by_,bt⟩) (v:=.slice p n c) hb1;have HA:=Lib.hid hA;have HR:=Lib.hid hR;obtain ⟨a0,a1,a2,a3,a4,a5,a6,a7,a8,az⟩:=hA;obtain ⟨r0,r1,r2,r3,r4,r5,r6,r7,r8,rz⟩:=hR;clear hb1;dsimp only [zeroF,nilV] at a0 a1 a2 a3 a4 a5 a6 a7 a8 r0 r1 r2 r3 r4 r5 r6 r7 r8;go_wp2_with fail
    exact bodyPost_ret (v:=(.tuple #[.agg #[.int .i64 3,.int .i64 0,.int .i64 0,.string ⟨#[]⟩,.string fn,.int .i64 ar,Value.slice p n c,.string by_,.int .i64 bt],.bool false])) (by simp [results,Tryz.results254,go_sem, *]) rfl ⟨by simp,by (repeat' (first | with_reducible exact hb | with_reducible exact Below.refl _ _ | with_reducible exact Nat.le_refl _ | with_reducible refine Below.setCell ?_ ?_ _ | with_reducible refine Below.alloc ?_ ?_ _ | (simp;done) | (simp;omega)))⟩
  ·have h1:(inB g 1 2147483647) = false:=by simpa using h1
   have hw0:=fun W=>within i 1 2147483647 W;rw [h0] at hw0;have hw1:=fun W=>within g 1 2147483647 W;rw [h1] at hw1;rw [h0,h1];go_enter Tryz.func254,Tryz.ntmps254;go_wp2_with fail;refine (hw0 _).mono ?_;rintro e w' ⟨rfl,rfl⟩;go_wp2_with fail;refine (hw1 _).mono ?_;rintro e w' ⟨rfl,rfl⟩;go_wp2_with fail
   exact bodyPost_ret (v:=(.tuple #[.agg #[.int .i64 3,.int .i64 0,.int .i64 0,.string ⟨#[]⟩,.string fn,.int .i64 ar,Value.slice p n c,.string by_,.int .i64 bt],.bool false])) (by simp [results,Tryz.results254,go_sem, *]) rfl ⟨by simp,by (repeat' (first | with_reducible exact hb | with_reducible exact Below.refl _ _ | with_reducible exact Nat.le_refl _ | with_reducible refine Below.setCell ?_ ?_ _ | with_reducible refine Below.alloc ?_ ?_ _ | (simp;done) | (simp;omega)))⟩
 ·have h0:(inB i 1 2147483647) = false:=by simpa using h0
  have hw0:=fun W=>within i 1 2147483647 W;rw [h0] at hw0;rw [h0];go_enter Tryz.func254,Tryz.ntmps254;go_wp2_with fail;refine (hw0 _).mono ?_;rintro e w' ⟨rfl,rfl⟩;go_wp2_with fail
  exact bodyPost_ret (v:=(.tuple #[.agg #[.int .i64 3,.int .i64 0,.int .i64 0,.string ⟨#[]⟩,.string fn,.int .i64 ar,Value.slice p n c,.string by_,.int .i64 bt],.bool false])) (by simp [results,Tryz.results254,go_sem, *]) rfl ⟨by simp,by (repeat' (first | with_reducible exact hb | with_reducible exact Below.refl _ _ | with_reducible exact Nat.le_refl _ | with_reducible refine Below.setCell ?_ ?_ _ | with_reducible refine Below.alloc ?_ ?_ _ | (simp;done) | (simp;omega)))⟩
theorem kindPid (i g:Int) (nm fn:ByteArray) (ar:Int) (by_:ByteArray) (bt:Int) (p:Option Addr) (n c:Nat) (last:Int) (w:World) (hn:n ≤ c) (hc:c ≤ 9223372036854775807):Calls Tryz.prog 254 #[aggV ⟨6,i,g,nm,fn,ar,by_,bt⟩ (.slice p n c)] w (KPost ⟨6,i,g,nm,fn,ar,by_,bt⟩ (.slice p n c) n last w):=by
 have hb:bareF ⟨6,i,g,nm,fn,ar,by_,bt⟩ = ⟨6,0,0,⟨#[]⟩,fn,ar,by_,bt⟩:=by simp [bareF]
 have hv:bareV ⟨6,i,g,nm,fn,ar,by_,bt⟩ (.slice p n c) = Value.slice p n c:=by simp [bareV,nilV]
 have ho:okF ⟨6,i,g,nm,fn,ar,by_,bt⟩ n last = (inB i 1 2147483647 && (inB g 1 2147483647 && (vName nm))):=by simp [okF]
 unfold KPost;rw [hb,hv,ho];unfold aggV;dsimp only;clear hb hv ho
 by_cases h0:(inB i 1 2147483647) = true
 ·by_cases h1:(inB g 1 2147483647) = true
  ·by_cases h2:(vName nm) = true
   ·have hw0:=fun W=>within i 1 2147483647 W;rw [h0] at hw0;have hw1:=fun W=>within g 1 2147483647 W;rw [h1] at hw1;have hV2:=fun W=>Valid nm W;rw [h2] at hV2;rw [h0,h1,h2];go_enter Tryz.func254,Tryz.ntmps254;go_wp2_with fail;refine (hw0 _).mono ?_;rintro e w' ⟨rfl,rfl⟩;go_wp2_with fail;refine (hw1 _).mono ?_;rintro e w' ⟨rfl,rfl⟩;go_wp2_with fail;refine (hV2 _).mono ?_;rintro e w1 ⟨rfl,hb1⟩;have hz:w.heap.size + 1 < w1.heap.size:=by have:=hb1.size;simp at this;omega
    obtain ⟨hA,hR,hb⟩:=two_box (f:=⟨6,i,g,nm,fn,ar,by_,bt⟩) (v:=.slice p n c) hb1;have HA:=Lib.hid hA;have HR:=Lib.hid hR;obtain ⟨a0,a1,a2,a3,a4,a5,a6,a7,a8,az⟩:=hA;obtain ⟨r0,r1,r2,r3,r4,r5,r6,r7,r8,rz⟩:=hR;clear hb1;dsimp only [zeroF,nilV] at a0 a1 a2 a3 a4 a5 a6 a7 a8 r0 r1 r2 r3 r4 r5 r6 r7 r8;go_wp2_with fail
    exact bodyPost_ret (v:=(.tuple #[.agg #[.int .i64 6,.int .i64 0,.int .i64 0,.string ⟨#[]⟩,.string fn,.int .i64 ar,Value.slice p n c,.string by_,.int .i64 bt],.bool true])) (by simp [results,Tryz.results254,go_sem, *]) rfl ⟨by simp,by (repeat' (first | with_reducible exact hb | with_reducible exact Below.refl _ _ | with_reducible exact Nat.le_refl _ | with_reducible refine Below.setCell ?_ ?_ _ | with_reducible refine Below.alloc ?_ ?_ _ | (simp;done) | (simp;omega)))⟩
   ·have h2:(vName nm) = false:=by simpa using h2
    have hw0:=fun W=>within i 1 2147483647 W;rw [h0] at hw0;have hw1:=fun W=>within g 1 2147483647 W;rw [h1] at hw1;have hV2:=fun W=>Valid nm W;rw [h2] at hV2;rw [h0,h1,h2];go_enter Tryz.func254,Tryz.ntmps254;go_wp2_with fail;refine (hw0 _).mono ?_;rintro e w' ⟨rfl,rfl⟩;go_wp2_with fail;refine (hw1 _).mono ?_;rintro e w' ⟨rfl,rfl⟩;go_wp2_with fail;refine (hV2 _).mono ?_;rintro e w1 ⟨rfl,hb1⟩;have hz:w.heap.size + 1 < w1.heap.size:=by have:=hb1.size;simp at this;omega
    obtain ⟨hA,hR,hb⟩:=two_box (f:=⟨6,i,g,nm,fn,ar,by_,bt⟩) (v:=.slice p n c) hb1;have HA:=Lib.hid hA;have HR:=Lib.hid hR;obtain ⟨a0,a1,a2,a3,a4,a5,a6,a7,a8,az⟩:=hA;obtain ⟨r0,r1,r2,r3,r4,r5,r6,r7,r8,rz⟩:=hR;clear hb1;dsimp only [zeroF,nilV] at a0 a1 a2 a3 a4 a5 a6 a7 a8 r0 r1 r2 r3 r4 r5 r6 r7 r8;go_wp2_with fail
    exact bodyPost_ret (v:=(.tuple #[.agg #[.int .i64 6,.int .i64 0,.int .i64 0,.string ⟨#[]⟩,.string fn,.int .i64 ar,Value.slice p n c,.string by_,.int .i64 bt],.bool false])) (by simp [results,Tryz.results254,go_sem, *]) rfl ⟨by simp,by (repeat' (first | with_reducible exact hb | with_reducible exact Below.refl _ _ | with_reducible exact Nat.le_refl _ | with_reducible refine Below.setCell ?_ ?_ _ | with_reducible refine Below.alloc ?_ ?_ _ | (simp;done) | (simp;omega)))⟩
  ·have h1:(inB g 1 2147483647) = false:=by simpa using h1
   have hw0:=fun W=>within i 1 2147483647 W;rw [h0] at hw0;have hw1:=fun W=>within g 1 2147483647 W;rw [h1] at hw1;rw [h0,h1];go_enter Tryz.func254,Tryz.ntmps254;go_wp2_with fail;refine (hw0 _).mono ?_;rintro e w' ⟨rfl,rfl⟩;go_wp2_with fail;refine (hw1 _).mono ?_;rintro e w' ⟨rfl,rfl⟩;go_wp2_with fail
   exact bodyPost_ret (v:=(.tuple #[.agg #[.int .i64 6,.int .i64 0,.int .i64 0,.string ⟨#[]⟩,.string fn,.int .i64 ar,Value.slice p n c,.string by_,.int .i64 bt],.bool false])) (by simp [results,Tryz.results254,go_sem, *]) rfl ⟨by simp,by (repeat' (first | with_reducible exact hb | with_reducible exact Below.refl _ _ | with_reducible exact Nat.le_refl _ | with_reducible refine Below.setCell ?_ ?_ _ | with_reducible refine Below.alloc ?_ ?_ _ | (simp;done) | (simp;omega)))⟩
 ·have h0:(inB i 1 2147483647) = false:=by simpa using h0
  have hw0:=fun W=>within i 1 2147483647 W;rw [h0] at hw0;rw [h0];go_enter Tryz.func254,Tryz.ntmps254;go_wp2_with fail;refine (hw0 _).mono ?_;rintro e w' ⟨rfl,rfl⟩;go_wp2_with fail
  exact bodyPost_ret (v:=(.tuple #[.agg #[.int .i64 6,.int .i64 0,.int .i64 0,.string ⟨#[]⟩,.string fn,.int .i64 ar,Value.slice p n c,.string by_,.int .i64 bt],.bool false])) (by simp [results,Tryz.results254,go_sem, *]) rfl ⟨by simp,by (repeat' (first | with_reducible exact hb | with_reducible exact Below.refl _ _ | with_reducible exact Nat.le_refl _ | with_reducible refine Below.setCell ?_ ?_ _ | with_reducible refine Below.alloc ?_ ?_ _ | (simp;done) | (simp;omega)))⟩
theorem kindClosure (i g:Int) (nm fn:ByteArray) (ar:Int) (by_:ByteArray) (bt:Int) (p:Option Addr) (n c:Nat) (last:Int) (w:World) (hn:n ≤ c) (hc:c ≤ 9223372036854775807):Calls Tryz.prog 259 #[aggV ⟨4,i,g,nm,fn,ar,by_,bt⟩ (.slice p n c)] w (KPost ⟨4,i,g,nm,fn,ar,by_,bt⟩ (.slice p n c) n last w):=by
 have hb:bareF ⟨4,i,g,nm,fn,ar,by_,bt⟩ = ⟨4,0,0,⟨#[]⟩,fn,0,by_,bt⟩:=by simp [bareF]
 have hv:bareV ⟨4,i,g,nm,fn,ar,by_,bt⟩ (.slice p n c) = Value.slice none 0 0:=by simp [bareV,nilV]
 have ho:okF ⟨4,i,g,nm,fn,ar,by_,bt⟩ n last = (inB i 0 999 && (inB g 1 2147483647 && (vName nm && (inB ar 0 16 && (decide (n ≤ 200)))))):=by simp [okF]
 unfold KPost;rw [hb,hv,ho];unfold aggV;dsimp only;clear hb hv ho
 by_cases h0:(inB i 0 999) = true
 ·by_cases h1:(inB g 1 2147483647) = true
  ·by_cases h2:(vName nm) = true
   ·by_cases h3:(inB ar 0 16) = true
    ·by_cases h4:(decide (n ≤ 200)) = true
     ·have hw0:=fun W=>within i 0 999 W;rw [h0] at hw0;have hw1:=fun W=>within g 1 2147483647 W;rw [h1] at hw1;have hV2:=fun W=>Valid nm W;rw [h2] at hV2;have hw3:=fun W=>within ar 0 16 W;rw [h3] at hw3;have q4:(n:Int) ≤ 200:=by have:=of_decide_eq_true h4;omega
      rw [h0,h1,h2,h3,h4];go_enter Tryz.func259,Tryz.ntmps259;go_wp2_with fail;refine (hw0 _).mono ?_;rintro e w' ⟨rfl,rfl⟩;go_wp2_with fail;refine (hw1 _).mono ?_;rintro e w' ⟨rfl,rfl⟩;go_wp2_with fail;refine (hV2 _).mono ?_;rintro e w1 ⟨rfl,hb1⟩;have hz:w.heap.size + 1 < w1.heap.size:=by have:=hb1.size;simp at this;omega
      obtain ⟨hA,hR,hb⟩:=two_box (f:=⟨4,i,g,nm,fn,ar,by_,bt⟩) (v:=.slice p n c) hb1;have HA:=Lib.hid hA;have HR:=Lib.hid hR;obtain ⟨a0,a1,a2,a3,a4,a5,a6,a7,a8,az⟩:=hA;obtain ⟨r0,r1,r2,r3,r4,r5,r6,r7,r8,rz⟩:=hR;clear hb1;dsimp only [zeroF,nilV] at a0 a1 a2 a3 a4 a5 a6 a7 a8 r0 r1 r2 r3 r4 r5 r6 r7 r8;go_wp2_with fail;refine (hw3 _).mono ?_;rintro e w' ⟨rfl,rfl⟩;go_wp2_with fail
      exact bodyPost_ret (v:=(.tuple #[.agg #[.int .i64 4,.int .i64 0,.int .i64 0,.string ⟨#[]⟩,.string fn,.int .i64 0,Value.slice none 0 0,.string by_,.int .i64 bt],.bool true])) (by simp [results,Tryz.results259,go_sem, *]) rfl ⟨by simp,by (repeat' (first | with_reducible exact hb | with_reducible exact Below.refl _ _ | with_reducible exact Nat.le_refl _ | with_reducible refine Below.setCell ?_ ?_ _ | with_reducible refine Below.alloc ?_ ?_ _ | (simp;done) | (simp;omega)))⟩
     ·have h4:(decide (n ≤ 200)) = false:=by simpa using h4
      have hw0:=fun W=>within i 0 999 W;rw [h0] at hw0;have hw1:=fun W=>within g 1 2147483647 W;rw [h1] at hw1;have hV2:=fun W=>Valid nm W;rw [h2] at hV2;have hw3:=fun W=>within ar 0 16 W;rw [h3] at hw3;have q4:(200:Int) < (n:Int):=by have:=of_decide_eq_false h4;omega
      rw [h0,h1,h2,h3,h4];go_enter Tryz.func259,Tryz.ntmps259;go_wp2_with fail;refine (hw0 _).mono ?_;rintro e w' ⟨rfl,rfl⟩;go_wp2_with fail;refine (hw1 _).mono ?_;rintro e w' ⟨rfl,rfl⟩;go_wp2_with fail;refine (hV2 _).mono ?_;rintro e w1 ⟨rfl,hb1⟩;have hz:w.heap.size + 1 < w1.heap.size:=by have:=hb1.size;simp at this;omega
      obtain ⟨hA,hR,hb⟩:=two_box (f:=⟨4,i,g,nm,fn,ar,by_,bt⟩) (v:=.slice p n c) hb1;have HA:=Lib.hid hA;have HR:=Lib.hid hR;obtain ⟨a0,a1,a2,a3,a4,a5,a6,a7,a8,az⟩:=hA;obtain ⟨r0,r1,r2,r3,r4,r5,r6,r7,r8,rz⟩:=hR;clear hb1;dsimp only [zeroF,nilV] at a0 a1 a2 a3 a4 a5 a6 a7 a8 r0 r1 r2 r3 r4 r5 r6 r7 r8;go_wp2_with fail;refine (hw3 _).mono ?_;rintro e w' ⟨rfl,rfl⟩;go_wp2_with fail
      exact bodyPost_ret (v:=(.tuple #[.agg #[.int .i64 4,.int .i64 0,.int .i64 0,.string ⟨#[]⟩,.string fn,.int .i64 0,Value.slice none 0 0,.string by_,.int .i64 bt],.bool false])) (by simp [results,Tryz.results259,go_sem, *]) rfl ⟨by simp,by (repeat' (first | with_reducible exact hb | with_reducible exact Below.refl _ _ | with_reducible exact Nat.le_refl _ | with_reducible refine Below.setCell ?_ ?_ _ | with_reducible refine Below.alloc ?_ ?_ _ | (simp;done) | (simp;omega)))⟩
    ·have h3:(inB ar 0 16) = false:=by simpa using h3
     have hw0:=fun W=>within i 0 999 W;rw [h0] at hw0;have hw1:=fun W=>within g 1 2147483647 W;rw [h1] at hw1;have hV2:=fun W=>Valid nm W;rw [h2] at hV2;have hw3:=fun W=>within ar 0 16 W;rw [h3] at hw3;rw [h0,h1,h2,h3];go_enter Tryz.func259,Tryz.ntmps259;go_wp2_with fail;refine (hw0 _).mono ?_;rintro e w' ⟨rfl,rfl⟩;go_wp2_with fail;refine (hw1 _).mono ?_;rintro e w' ⟨rfl,rfl⟩;go_wp2_with fail;refine (hV2 _).mono ?_;rintro e w1 ⟨rfl,hb1⟩;have hz:w.heap.size + 1 < w1.heap.size:=by have:=hb1.size;simp at this;omega
     obtain ⟨hA,hR,hb⟩:=two_box (f:=⟨4,i,g,nm,fn,ar,by_,bt⟩) (v:=.slice p n c) hb1;have HA:=Lib.hid hA;have HR:=Lib.hid hR;obtain ⟨a0,a1,a2,a3,a4,a5,a6,a7,a8,az⟩:=hA;obtain ⟨r0,r1,r2,r3,r4,r5,r6,r7,r8,rz⟩:=hR;clear hb1;dsimp only [zeroF,nilV] at a0 a1 a2 a3 a4 a5 a6 a7 a8 r0 r1 r2 r3 r4 r5 r6 r7 r8;go_wp2_with fail;refine (hw3 _).mono ?_;rintro e w' ⟨rfl,rfl⟩;go_wp2_with fail
     exact bodyPost_ret (v:=(.tuple #[.agg #[.int .i64 4,.int .i64 0,.int .i64 0,.string ⟨#[]⟩,.string fn,.int .i64 0,Value.slice none 0 0,.string by_,.int .i64 bt],.bool false])) (by simp [results,Tryz.results259,go_sem, *]) rfl ⟨by simp,by (repeat' (first | with_reducible exact hb | with_reducible exact Below.refl _ _ | with_reducible exact Nat.le_refl _ | with_reducible refine Below.setCell ?_ ?_ _ | with_reducible refine Below.alloc ?_ ?_ _ | (simp;done) | (simp;omega)))⟩
   ·have h2:(vName nm) = false:=by simpa using h2
    have hw0:=fun W=>within i 0 999 W;rw [h0] at hw0;have hw1:=fun W=>within g 1 2147483647 W;rw [h1] at hw1;have hV2:=fun W=>Valid nm W;rw [h2] at hV2;rw [h0,h1,h2];go_enter Tryz.func259,Tryz.ntmps259;go_wp2_with fail;refine (hw0 _).mono ?_;rintro e w' ⟨rfl,rfl⟩;go_wp2_with fail;refine (hw1 _).mono ?_;rintro e w' ⟨rfl,rfl⟩;go_wp2_with fail;refine (hV2 _).mono ?_;rintro e w1 ⟨rfl,hb1⟩;have hz:w.heap.size + 1 < w1.heap.size:=by have:=hb1.size;simp at this;omega
    obtain ⟨hA,hR,hb⟩:=two_box (f:=⟨4,i,g,nm,fn,ar,by_,bt⟩) (v:=.slice p n c) hb1;have HA:=Lib.hid hA;have HR:=Lib.hid hR;obtain ⟨a0,a1,a2,a3,a4,a5,a6,a7,a8,az⟩:=hA;obtain ⟨r0,r1,r2,r3,r4,r5,r6,r7,r8,rz⟩:=hR;clear hb1;dsimp only [zeroF,nilV] at a0 a1 a2 a3 a4 a5 a6 a7 a8 r0 r1 r2 r3 r4 r5 r6 r7 r8;go_wp2_with fail
    exact bodyPost_ret (v:=(.tuple #[.agg #[.int .i64 4,.int .i64 0,.int .i64 0,.string ⟨#[]⟩,.string fn,.int .i64 0,Value.slice none 0 0,.string by_,.int .i64 bt],.bool false])) (by simp [results,Tryz.results259,go_sem, *]) rfl ⟨by simp,by (repeat' (first | with_reducible exact hb | with_reducible exact Below.refl _ _ | with_reducible exact Nat.le_refl _ | with_reducible refine Below.setCell ?_ ?_ _ | with_reducible refine Below.alloc ?_ ?_ _ | (simp;done) | (simp;omega)))⟩
  ·have h1:(inB g 1 2147483647) = false:=by simpa using h1
   have hw0:=fun W=>within i 0 999 W;rw [h0] at hw0;have hw1:=fun W=>within g 1 2147483647 W;rw [h1] at hw1;rw [h0,h1];go_enter Tryz.func259,Tryz.ntmps259;go_wp2_with fail;refine (hw0 _).mono ?_;rintro e w' ⟨rfl,rfl⟩;go_wp2_with fail;refine (hw1 _).mono ?_;rintro e w' ⟨rfl,rfl⟩;go_wp2_with fail
   exact bodyPost_ret (v:=(.tuple #[.agg #[.int .i64 4,.int .i64 0,.int .i64 0,.string ⟨#[]⟩,.string fn,.int .i64 0,Value.slice none 0 0,.string by_,.int .i64 bt],.bool false])) (by simp [results,Tryz.results259,go_sem, *]) rfl ⟨by simp,by (repeat' (first | with_reducible exact hb | with_reducible exact Below.refl _ _ | with_reducible exact Nat.le_refl _ | with_reducible refine Below.setCell ?_ ?_ _ | with_reducible refine Below.alloc ?_ ?_ _ | (simp;done) | (simp;omega)))⟩
 ·have h0:(inB i 0 999) = false:=by simpa using h0
  have hw0:=fun W=>within i 0 999 W;rw [h0] at hw0;rw [h0];go_enter Tryz.func259,Tryz.ntmps259;go_wp2_with fail;refine (hw0 _).mono ?_;rintro e w' ⟨rfl,rfl⟩;go_wp2_with fail
  exact bodyPost_ret (v:=(.tuple #[.agg #[.int .i64 4,.int .i64 0,.int .i64 0,.string ⟨#[]⟩,.string fn,.int .i64 0,Value.slice none 0 0,.string by_,.int .i64 bt],.bool false])) (by simp [results,Tryz.results259,go_sem, *]) rfl ⟨by simp,by (repeat' (first | with_reducible exact hb | with_reducible exact Below.refl _ _ | with_reducible exact Nat.le_refl _ | with_reducible refine Below.setCell ?_ ?_ _ | with_reducible refine Below.alloc ?_ ?_ _ | (simp;done) | (simp;omega)))⟩
theorem kindExport (i g:Int) (nm fn:ByteArray) (ar:Int) (by_:ByteArray) (bt:Int) (p:Option Addr) (n c:Nat) (last:Int) (w:World) (hn:n ≤ c) (hc:c ≤ 9223372036854775807):Calls Tryz.prog 260 #[aggV ⟨5,i,g,nm,fn,ar,by_,bt⟩ (.slice p n c)] w (KPost ⟨5,i,g,nm,fn,ar,by_,bt⟩ (.slice p n c) n last w):=by
 have hb:bareF ⟨5,i,g,nm,fn,ar,by_,bt⟩ = ⟨5,i,g,⟨#[]⟩,⟨#[]⟩,0,by_,bt⟩:=by simp [bareF]
 have hv:bareV ⟨5,i,g,nm,fn,ar,by_,bt⟩ (.slice p n c) = Value.slice p n c:=by simp [bareV,nilV]
 have ho:okF ⟨5,i,g,nm,fn,ar,by_,bt⟩ n last = (vName nm && (vName fn && (inB ar 0 16))):=by simp [okF]
 unfold KPost;rw [hb,hv,ho];unfold aggV;dsimp only;clear hb hv ho
 by_cases h0:(vName nm) = true
 ·by_cases h1:(vName fn) = true
  ·by_cases h2:(inB ar 0 16) = true
   ·have hV0:=fun W=>Valid nm W;rw [h0] at hV0;have hV1:=fun W=>Valid fn W;rw [h1] at hV1;have hw2:=fun W=>within ar 0 16 W;rw [h2] at hw2;rw [h0,h1,h2];go_enter Tryz.func260,Tryz.ntmps260;go_wp2_with fail;refine (hV0 _).mono ?_;rintro e w1 ⟨rfl,hb1⟩;have hz:w.heap.size + 1 < w1.heap.size:=by have:=hb1.size;simp at this;omega
    obtain ⟨hA,hR,hb⟩:=two_box (f:=⟨5,i,g,nm,fn,ar,by_,bt⟩) (v:=.slice p n c) hb1;have HA:=Lib.hid hA;have HR:=Lib.hid hR;obtain ⟨a0,a1,a2,a3,a4,a5,a6,a7,a8,az⟩:=hA;obtain ⟨r0,r1,r2,r3,r4,r5,r6,r7,r8,rz⟩:=hR;clear hb1;dsimp only [zeroF,nilV] at a0 a1 a2 a3 a4 a5 a6 a7 a8 r0 r1 r2 r3 r4 r5 r6 r7 r8;go_wp2_with fail;refine (hV1 _).mono ?_;rintro e w2 ⟨rfl,hb2⟩;have hA:=HA.out.below hb2 (by omega);have hR:=HR.out.below hb2 (by omega);have hz:w.heap.size + 1 < w2.heap.size:=by have:=hb2.size;omega
    have hb:=hb.trans (hb2.mono (by omega));clear hb2 a0 a1 a2 a3 a4 a5 a6 a7 a8 az r0 r1 r2 r3 r4 r5 r6 r7 r8 rz;have HA:=Lib.hid hA;have HR:=Lib.hid hR;obtain ⟨a0,a1,a2,a3,a4,a5,a6,a7,a8,az⟩:=hA;obtain ⟨r0,r1,r2,r3,r4,r5,r6,r7,r8,rz⟩:=hR;dsimp only [zeroF,nilV] at a0 a1 a2 a3 a4 a5 a6 a7 a8 r0 r1 r2 r3 r4 r5 r6 r7 r8;go_wp2_with fail;refine (hw2 _).mono ?_;rintro e w' ⟨rfl,rfl⟩;go_wp2_with fail
    exact bodyPost_ret (v:=(.tuple #[.agg #[.int .i64 5,.int .i64 i,.int .i64 g,.string ⟨#[]⟩,.string ⟨#[]⟩,.int .i64 0,Value.slice p n c,.string by_,.int .i64 bt],.bool true])) (by simp [results,Tryz.results260,go_sem, *]) rfl ⟨by simp,by (repeat' (first | with_reducible exact hb | with_reducible exact Below.refl _ _ | with_reducible exact Nat.le_refl _ | with_reducible refine Below.setCell ?_ ?_ _ | with_reducible refine Below.alloc ?_ ?_ _ | (simp;done) | (simp;omega)))⟩
   ·have h2:(inB ar 0 16) = false:=by simpa using h2
    have hV0:=fun W=>Valid nm W;rw [h0] at hV0;have hV1:=fun W=>Valid fn W;rw [h1] at hV1;have hw2:=fun W=>within ar 0 16 W;rw [h2] at hw2;rw [h0,h1,h2];go_enter Tryz.func260,Tryz.ntmps260;go_wp2_with fail;refine (hV0 _).mono ?_;rintro e w1 ⟨rfl,hb1⟩;have hz:w.heap.size + 1 < w1.heap.size:=by have:=hb1.size;simp at this;omega
    obtain ⟨hA,hR,hb⟩:=two_box (f:=⟨5,i,g,nm,fn,ar,by_,bt⟩) (v:=.slice p n c) hb1;have HA:=Lib.hid hA;have HR:=Lib.hid hR;obtain ⟨a0,a1,a2,a3,a4,a5,a6,a7,a8,az⟩:=hA;obtain ⟨r0,r1,r2,r3,r4,r5,r6,r7,r8,rz⟩:=hR;clear hb1;dsimp only [zeroF,nilV] at a0 a1 a2 a3 a4 a5 a6 a7 a8 r0 r1 r2 r3 r4 r5 r6 r7 r8;go_wp2_with fail;refine (hV1 _).mono ?_;rintro e w2 ⟨rfl,hb2⟩;have hA:=HA.out.below hb2 (by omega);have hR:=HR.out.below hb2 (by omega);have hz:w.heap.size + 1 < w2.heap.size:=by have:=hb2.size;omega
    have hb:=hb.trans (hb2.mono (by omega));clear hb2 a0 a1 a2 a3 a4 a5 a6 a7 a8 az r0 r1 r2 r3 r4 r5 r6 r7 r8 rz;have HA:=Lib.hid hA;have HR:=Lib.hid hR;obtain ⟨a0,a1,a2,a3,a4,a5,a6,a7,a8,az⟩:=hA;obtain ⟨r0,r1,r2,r3,r4,r5,r6,r7,r8,rz⟩:=hR;dsimp only [zeroF,nilV] at a0 a1 a2 a3 a4 a5 a6 a7 a8 r0 r1 r2 r3 r4 r5 r6 r7 r8;go_wp2_with fail;refine (hw2 _).mono ?_;rintro e w' ⟨rfl,rfl⟩;go_wp2_with fail
    exact bodyPost_ret (v:=(.tuple #[.agg #[.int .i64 5,.int .i64 i,.int .i64 g,.string ⟨#[]⟩,.string ⟨#[]⟩,.int .i64 0,Value.slice p n c,.string by_,.int .i64 bt],.bool false])) (by simp [results,Tryz.results260,go_sem, *]) rfl ⟨by simp,by (repeat' (first | with_reducible exact hb | with_reducible exact Below.refl _ _ | with_reducible exact Nat.le_refl _ | with_reducible refine Below.setCell ?_ ?_ _ | with_reducible refine Below.alloc ?_ ?_ _ | (simp;done) | (simp;omega)))⟩
  ·have h1:(vName fn) = false:=by simpa using h1
   have hV0:=fun W=>Valid nm W;rw [h0] at hV0;have hV1:=fun W=>Valid fn W;rw [h1] at hV1;rw [h0,h1];go_enter Tryz.func260,Tryz.ntmps260;go_wp2_with fail;refine (hV0 _).mono ?_;rintro e w1 ⟨rfl,hb1⟩;have hz:w.heap.size + 1 < w1.heap.size:=by have:=hb1.size;simp at this;omega
   obtain ⟨hA,hR,hb⟩:=two_box (f:=⟨5,i,g,nm,fn,ar,by_,bt⟩) (v:=.slice p n c) hb1;have HA:=Lib.hid hA;have HR:=Lib.hid hR;obtain ⟨a0,a1,a2,a3,a4,a5,a6,a7,a8,az⟩:=hA;obtain ⟨r0,r1,r2,r3,r4,r5,r6,r7,r8,rz⟩:=hR;clear hb1;dsimp only [zeroF,nilV] at a0 a1 a2 a3 a4 a5 a6 a7 a8 r0 r1 r2 r3 r4 r5 r6 r7 r8;go_wp2_with fail;refine (hV1 _).mono ?_;rintro e w2 ⟨rfl,hb2⟩;have hA:=HA.out.below hb2 (by omega);have hR:=HR.out.below hb2 (by omega);have hz:w.heap.size + 1 < w2.heap.size:=by have:=hb2.size;omega
   have hb:=hb.trans (hb2.mono (by omega));clear hb2 a0 a1 a2 a3 a4 a5 a6 a7 a8 az r0 r1 r2 r3 r4 r5 r6 r7 r8 rz;have HA:=Lib.hid hA;have HR:=Lib.hid hR;obtain ⟨a0,a1,a2,a3,a4,a5,a6,a7,a8,az⟩:=hA;obtain ⟨r0,r1,r2,r3,r4,r5,r6,r7,r8,rz⟩:=hR;dsimp only [zeroF,nilV] at a0 a1 a2 a3 a4 a5 a6 a7 a8 r0 r1 r2 r3 r4 r5 r6 r7 r8;go_wp2_with fail
   exact bodyPost_ret (v:=(.tuple #[.agg #[.int .i64 5,.int .i64 i,.int .i64 g,.string ⟨#[]⟩,.string ⟨#[]⟩,.int .i64 0,Value.slice p n c,.string by_,.int .i64 bt],.bool false])) (by simp [results,Tryz.results260,go_sem, *]) rfl ⟨by simp,by (repeat' (first | with_reducible exact hb | with_reducible exact Below.refl _ _ | with_reducible exact Nat.le_refl _ | with_reducible refine Below.setCell ?_ ?_ _ | with_reducible refine Below.alloc ?_ ?_ _ | (simp;done) | (simp;omega)))⟩
 ·have h0:(vName nm) = false:=by simpa using h0
  have hV0:=fun W=>Valid nm W;rw [h0] at hV0;rw [h0];go_enter Tryz.func260,Tryz.ntmps260;go_wp2_with fail;refine (hV0 _).mono ?_;rintro e w1 ⟨rfl,hb1⟩;have hz:w.heap.size + 1 < w1.heap.size:=by have:=hb1.size;simp at this;omega
  obtain ⟨hA,hR,hb⟩:=two_box (f:=⟨5,i,g,nm,fn,ar,by_,bt⟩) (v:=.slice p n c) hb1;have HA:=Lib.hid hA;have HR:=Lib.hid hR;obtain ⟨a0,a1,a2,a3,a4,a5,a6,a7,a8,az⟩:=hA;obtain ⟨r0,r1,r2,r3,r4,r5,r6,r7,r8,rz⟩:=hR;clear hb1;dsimp only [zeroF,nilV] at a0 a1 a2 a3 a4 a5 a6 a7 a8 r0 r1 r2 r3 r4 r5 r6 r7 r8;go_wp2_with fail
  exact bodyPost_ret (v:=(.tuple #[.agg #[.int .i64 5,.int .i64 i,.int .i64 g,.string ⟨#[]⟩,.string ⟨#[]⟩,.int .i64 0,Value.slice p n c,.string by_,.int .i64 bt],.bool false])) (by simp [results,Tryz.results260,go_sem, *]) rfl ⟨by simp,by (repeat' (first | with_reducible exact hb | with_reducible exact Below.refl _ _ | with_reducible exact Nat.le_refl _ | with_reducible refine Below.setCell ?_ ?_ _ | with_reducible refine Below.alloc ?_ ?_ _ | (simp;done) | (simp;omega)))⟩
theorem kindTuple (i g:Int) (nm fn:ByteArray) (ar:Int) (by_:ByteArray) (bt:Int) (p:Option Addr) (n c:Nat) (last:Int) (w:World) (hn:n ≤ c) (hc:c ≤ 9223372036854775807):Calls Tryz.prog 261 #[aggV ⟨7,i,g,nm,fn,ar,by_,bt⟩ (.slice p n c)] w (KPost ⟨7,i,g,nm,fn,ar,by_,bt⟩ (.slice p n c) n last w):=by
 have hb:bareF ⟨7,i,g,nm,fn,ar,by_,bt⟩ = ⟨7,i,g,nm,fn,ar,by_,bt⟩:=by simp [bareF]
 have hv:bareV ⟨7,i,g,nm,fn,ar,by_,bt⟩ (.slice p n c) = Value.slice none 0 0:=by simp [bareV,nilV]
 have ho:okF ⟨7,i,g,nm,fn,ar,by_,bt⟩ n last = (decide (n ≤ 255)):=by simp [okF]
 unfold KPost;rw [hb,hv,ho];unfold aggV;dsimp only;clear hb hv ho
 by_cases h0:(decide (n ≤ 255)) = true
 ·have q0:(n:Int) ≤ 255:=by have:=of_decide_eq_true h0;omega
  rw [h0];go_enter Tryz.func261,Tryz.ntmps261;go_wp2_with fail;exact bodyPost_ret (v:=(.tuple #[.agg #[.int .i64 7,.int .i64 i,.int .i64 g,.string nm,.string fn,.int .i64 ar,Value.slice none 0 0,.string by_,.int .i64 bt],.bool true])) (by simp [results,Tryz.results261,go_sem, *]) rfl ⟨by simp,by (repeat' (first | with_reducible exact hb | with_reducible exact Below.refl _ _ | with_reducible exact Nat.le_refl _ | with_reducible refine Below.setCell ?_ ?_ _ | with_reducible refine Below.alloc ?_ ?_ _ | (simp;done) | (simp;omega)))⟩
 ·have h0:(decide (n ≤ 255)) = false:=by simpa using h0
  have q0:(255:Int) < (n:Int):=by have:=of_decide_eq_false h0;omega
  rw [h0];go_enter Tryz.func261,Tryz.ntmps261;go_wp2_with fail;exact bodyPost_ret (v:=(.tuple #[.agg #[.int .i64 7,.int .i64 i,.int .i64 g,.string nm,.string fn,.int .i64 ar,Value.slice none 0 0,.string by_,.int .i64 bt],.bool false])) (by simp [results,Tryz.results261,go_sem, *]) rfl ⟨by simp,by (repeat' (first | with_reducible exact hb | with_reducible exact Below.refl _ _ | with_reducible exact Nat.le_refl _ | with_reducible refine Below.setCell ?_ ?_ _ | with_reducible refine Below.alloc ?_ ?_ _ | (simp;done) | (simp;omega)))⟩
theorem kindNil (i g:Int) (nm fn:ByteArray) (ar:Int) (by_:ByteArray) (bt:Int) (p:Option Addr) (n c:Nat) (last:Int) (w:World) (hn:n ≤ c) (hc:c ≤ 9223372036854775807):Calls Tryz.prog 262 #[aggV ⟨8,i,g,nm,fn,ar,by_,bt⟩ (.slice p n c)] w (KPost ⟨8,i,g,nm,fn,ar,by_,bt⟩ (.slice p n c) n last w):=by
 have hb:bareF ⟨8,i,g,nm,fn,ar,by_,bt⟩ = ⟨8,i,g,nm,fn,ar,by_,bt⟩:=by simp [bareF]
 have hv:bareV ⟨8,i,g,nm,fn,ar,by_,bt⟩ (.slice p n c) = Value.slice p n c:=by simp [bareV,nilV]
 have ho:okF ⟨8,i,g,nm,fn,ar,by_,bt⟩ n last = (true):=by simp [okF]
 unfold KPost;rw [hb,hv,ho];unfold aggV;dsimp only;clear hb hv ho;go_enter Tryz.func262,Tryz.ntmps262;go_wp2_with fail;exact bodyPost_ret (v:=(.tuple #[.agg #[.int .i64 8,.int .i64 i,.int .i64 g,.string nm,.string fn,.int .i64 ar,Value.slice p n c,.string by_,.int .i64 bt],.bool true])) (by simp [results,Tryz.results262,go_sem, *]) rfl ⟨by simp,by (repeat' (first | with_reducible exact hb | with_reducible exact Below.refl _ _ | with_reducible exact Nat.le_refl _ | with_reducible refine Below.setCell ?_ ?_ _ | with_reducible refine Below.alloc ?_ ?_ _ | (simp;done) | (simp;omega)))⟩
theorem kindList (i g:Int) (nm fn:ByteArray) (ar:Int) (by_:ByteArray) (bt:Int) (p:Option Addr) (n c:Nat) (last:Int) (w:World) (hn:n ≤ c) (hc:c ≤ 9223372036854775807)
 (hl:2 ≤ n→∃ g0 o0,p = some ⟨g0,o0,none⟩∧w.cell? ⟨g0,o0 + (n - 1) * 9,none⟩ = some (.int .i64 last)∧g0 < w.heap.size) :
 Calls Tryz.prog 263 #[aggV ⟨9,i,g,nm,fn,ar,by_,bt⟩ (.slice p n c)] w (KPost ⟨9,i,g,nm,fn,ar,by_,bt⟩ (.slice p n c) n last w):=by
 have hb:bareF ⟨9,i,g,nm,fn,ar,by_,bt⟩ = ⟨9,i,g,nm,fn,ar,by_,bt⟩:=by simp [bareF]
 have hv:bareV ⟨9,i,g,nm,fn,ar,by_,bt⟩ (.slice p n c) = .slice none 0 0:=by simp [bareV,nilV]
 have ho:okF ⟨9,i,g,nm,fn,ar,by_,bt⟩ n last = (decide (2 ≤ n) && decide (last ≠ 9)):=by simp [okF]
 unfold KPost;rw [hb,hv,ho];unfold aggV;dsimp only;clear hb hv ho
 by_cases h0:2 ≤ n
 ·rw [decide_eq_true h0];obtain ⟨g0,o0,rfl,hcell,hg0⟩:=hl h0;obtain ⟨m,rfl⟩:∃ m,n = m + 2:=⟨n - 2,by omega⟩;rw [show m + 2 - 1 = m + 1 by omega] at hcell;clear hl;have hc1:∀ o1 o2:Obj,((w.alloc o1).alloc o2).cell? ⟨g0,o0 + (m + 1) * 9,none⟩ = some (.int .i64 last):=fun o1 o2=>by
   rw [World.cell?_alloc_lt _ _ _ (by simp;omega),World.cell?_alloc_lt _ _ _ hg0];exact hcell
  by_cases h1:last ≠ 9
  ·have hq:(last != 9) = true:=by simpa using h1
   rw [decide_eq_true h1];clear h1;go_enter Tryz.func263,Tryz.ntmps263;go_wp2_with fail;exact bodyPost_ret (v:=(.tuple #[.agg #[.int .i64 9,.int .i64 i,.int .i64 g,.string nm,.string fn,.int .i64 ar,.slice none 0 0,.string by_,.int .i64 bt],.bool true])) (by simp [results,Tryz.results263,go_sem, *]) rfl ⟨by simp,by (repeat' (first | with_reducible exact Below.refl _ _ | with_reducible exact Nat.le_refl _ | with_reducible refine Below.setCell ?_ ?_ _ | with_reducible refine Below.alloc ?_ ?_ _ | (simp;done) | (simp;omega)))⟩
  ·have hq:(last != 9) = false:=by simpa using h1
   rw [decide_eq_false h1];clear h1;go_enter Tryz.func263,Tryz.ntmps263;go_wp2_with fail;exact bodyPost_ret (v:=(.tuple #[.agg #[.int .i64 9,.int .i64 i,.int .i64 g,.string nm,.string fn,.int .i64 ar,.slice none 0 0,.string by_,.int .i64 bt],.bool false])) (by simp [results,Tryz.results263,go_sem, *]) rfl ⟨by simp,by (repeat' (first | with_reducible exact Below.refl _ _ | with_reducible exact Nat.le_refl _ | with_reducible refine Below.setCell ?_ ?_ _ | with_reducible refine Below.alloc ?_ ?_ _ | (simp;done) | (simp;omega)))⟩
 ·rw [decide_eq_false h0];have hq:(n:Int) < 2:=by omega
  clear hl;go_enter Tryz.func263,Tryz.ntmps263;go_wp2_with fail;exact bodyPost_ret (v:=(.tuple #[.agg #[.int .i64 9,.int .i64 i,.int .i64 g,.string nm,.string fn,.int .i64 ar,.slice none 0 0,.string by_,.int .i64 bt],.bool false])) (by simp [results,Tryz.results263,go_sem, *]) rfl ⟨by simp,by (repeat' (first | with_reducible exact Below.refl _ _ | with_reducible exact Nat.le_refl _ | with_reducible refine Below.setCell ?_ ?_ _ | with_reducible refine Below.alloc ?_ ?_ _ | (simp;done) | (simp;omega)))⟩
end Go.Proofs.YtpnlnbolhkcnjaaGreat.tm
