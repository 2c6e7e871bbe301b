/- TmF,TmG,TmI. No condition beyond theirs. -/
import Derived.Test.YtpnlnbolhkcnjaaGreatK16
set_option linter.unusedSimpArgs false
set_option linter.unusedVariables false
set_option maxHeartbeats 1000000
set_option maxRecDepth 100000
namespace Go.Proofs.YtpnlnbolhkcnjaaGreat.tm
open Go.RowKit mem names
theorem kind0 (i g:Int) (nm fn:ByteArray) (ar:Int) (by_:ByteArray) (bt:Int) (p:Option Addr) (n c:Nat) (last:Int) (w:World) (hn:n ≤ c) (hc:c ≤ 9223372036854775807):Calls Tryz.prog 256 #[aggV ⟨0,i,g,nm,fn,ar,by_,bt⟩ (.slice p n c)] w (KPost ⟨0,i,g,nm,fn,ar,by_,bt⟩ (.slice p n c) n last w):=by
 have hb:bareF ⟨0,i,g,nm,fn,ar,by_,bt⟩ = ⟨0,i,g,nm,fn,ar,by_,bt⟩:=by simp [bareF]
 have hv:bareV ⟨0,i,g,nm,fn,ar,by_,bt⟩ (.slice p n c) = Value.slice p n c:=by simp [bareV,nilV]
 have ho:okF ⟨0,i,g,nm,fn,ar,by_,bt⟩ n last = (false):=by simp [okF]
 unfold KPost;rw [hb,hv,ho];unfold aggV;dsimp only;clear hb hv ho;go_enter Tryz.func256,Tryz.ntmps256;go_wp2_with fail;exact bodyPost_ret (v:=(.tuple #[.agg #[.int .i64 0,.int .i64 i,.int .i64 g,.string nm,.string fn,.int .i64 ar,Value.slice p n c,.string by_,.int .i64 bt],.bool false])) (by simp [results,Tryz.results256,go_sem, *]) rfl ⟨by simp,by (repeat' (first | with_reducible exact hb | with_reducible exact Below.refl _ _ | with_reducible exact Nat.le_refl _ | with_reducible refine Below.setCell ?_ ?_ _ | with_reducible refine Below.alloc ?_ ?_ _ | (simp;done) | (simp;omega)))⟩
theorem kindInt (i g:Int) (nm fn:ByteArray) (ar:Int) (by_:ByteArray) (bt:Int) (p:Option Addr) (n c:Nat) (last:Int) (w:World) (hn:n ≤ c) (hc:c ≤ 9223372036854775807):Calls Tryz.prog 257 #[aggV ⟨1,i,g,nm,fn,ar,by_,bt⟩ (.slice p n c)] w (KPost ⟨1,i,g,nm,fn,ar,by_,bt⟩ (.slice p n c) n last w):=by
 have hb:bareF ⟨1,i,g,nm,fn,ar,by_,bt⟩ = ⟨1,0,g,nm,fn,ar,by_,bt⟩:=by simp [bareF]
 have hv:bareV ⟨1,i,g,nm,fn,ar,by_,bt⟩ (.slice p n c) = Value.slice p n c:=by simp [bareV,nilV]
 have ho:okF ⟨1,i,g,nm,fn,ar,by_,bt⟩ n last = (true):=by simp [okF]
 unfold KPost;rw [hb,hv,ho];unfold aggV;dsimp only;clear hb hv ho;go_enter Tryz.func257,Tryz.ntmps257;go_wp2_with fail;exact bodyPost_ret (v:=(.tuple #[.agg #[.int .i64 1,.int .i64 0,.int .i64 g,.string nm,.string fn,.int .i64 ar,Value.slice p n c,.string by_,.int .i64 bt],.bool true])) (by simp [results,Tryz.results257,go_sem, *]) rfl ⟨by simp,by (repeat' (first | with_reducible exact hb | with_reducible exact Below.refl _ _ | with_reducible exact Nat.le_refl _ | with_reducible refine Below.setCell ?_ ?_ _ | with_reducible refine Below.alloc ?_ ?_ _ | (simp;done) | (simp;omega)))⟩
theorem kindAtom (i g:Int) (nm fn:ByteArray) (ar:Int) (by_:ByteArray) (bt:Int) (p:Option Addr) (n c:Nat) (last:Int) (w:World) (hn:n ≤ c) (hc:c ≤ 9223372036854775807):Calls Tryz.prog 258 #[aggV ⟨2,i,g,nm,fn,ar,by_,bt⟩ (.slice p n c)] w (KPost ⟨2,i,g,nm,fn,ar,by_,bt⟩ (.slice p n c) n last w):=by
 have hb:bareF ⟨2,i,g,nm,fn,ar,by_,bt⟩ = ⟨2,i,g,⟨#[]⟩,fn,ar,by_,bt⟩:=by simp [bareF]
 have hv:bareV ⟨2,i,g,nm,fn,ar,by_,bt⟩ (.slice p n c) = Value.slice p n c:=by simp [bareV,nilV]
 have ho:okF ⟨2,i,g,nm,fn,ar,by_,bt⟩ n last = (vName nm):=by simp [okF]
 unfold KPost;rw [hb,hv,ho];unfold aggV;dsimp only;clear hb hv ho
 by_cases h0:(vName nm) = true
 ·have hV0:=fun W=>Valid nm W;rw [h0] at hV0;rw [h0];go_enter Tryz.func258,Tryz.ntmps258;go_wp2_with fail;refine (hV0 _).mono ?_;rintro e w1 ⟨rfl,hb1⟩;have hz:w.heap.size + 1 < w1.heap.size:=by have:=hb1.size;simp at this;omega
  obtain ⟨hA,hR,hb⟩:=two_box (f:=⟨2,i,g,nm,fn,ar,by_,bt⟩) (v:=.slice p n c) hb1;have HA:=Lib.hid hA;have HR:=Lib.hid hR;obtain ⟨a0,a1,a2,a3,a4,a5,a6,a7,a8,az⟩:=hA;obtain ⟨r0,r1,r2,r3,r4,r5,r6,r7,r8,rz⟩:=hR;clear hb1;dsimp only [zeroF,nilV] at a0 a1 a2 a3 a4 a5 a6 a7 a8 r0 r1 r2 r3 r4 r5 r6 r7 r8;go_wp2_with fail
  exact bodyPost_ret (v:=(.tuple #[.agg #[.int .i64 2,.int .i64 i,.int .i64 g,.string ⟨#[]⟩,.string fn,.int .i64 ar,Value.slice p n c,.string by_,.int .i64 bt],.bool true])) (by simp [results,Tryz.results258,go_sem, *]) rfl ⟨by simp,by (repeat' (first | with_reducible exact hb | with_reducible exact Below.refl _ _ | with_reducible exact Nat.le_refl _ | with_reducible refine Below.setCell ?_ ?_ _ | with_reducible refine Below.alloc ?_ ?_ _ | (simp;done) | (simp;omega)))⟩
 ·have h0:(vName nm) = false:=by simpa using h0
  have hV0:=fun W=>Valid nm W;rw [h0] at hV0;rw [h0];go_enter Tryz.func258,Tryz.ntmps258;go_wp2_with fail;refine (hV0 _).mono ?_;rintro e w1 ⟨rfl,hb1⟩;have hz:w.heap.size + 1 < w1.heap.size:=by have:=hb1.size;simp at this;omega
  obtain ⟨hA,hR,hb⟩:=two_box (f:=⟨2,i,g,nm,fn,ar,by_,bt⟩) (v:=.slice p n c) hb1;have HA:=Lib.hid hA;have HR:=Lib.hid hR;obtain ⟨a0,a1,a2,a3,a4,a5,a6,a7,a8,az⟩:=hA;obtain ⟨r0,r1,r2,r3,r4,r5,r6,r7,r8,rz⟩:=hR;clear hb1;dsimp only [zeroF,nilV] at a0 a1 a2 a3 a4 a5 a6 a7 a8 r0 r1 r2 r3 r4 r5 r6 r7 r8;go_wp2_with fail
  exact bodyPost_ret (v:=(.tuple #[.agg #[.int .i64 2,.int .i64 i,.int .i64 g,.string ⟨#[]⟩,.string fn,.int .i64 ar,Value.slice p n c,.string by_,.int .i64 bt],.bool false])) (by simp [results,Tryz.results258,go_sem, *]) rfl ⟨by simp,by (repeat' (first | with_reducible exact hb | with_reducible exact Below.refl _ _ | with_reducible exact Nat.le_refl _ | with_reducible refine Below.setCell ?_ ?_ _ | with_reducible refine Below.alloc ?_ ?_ _ | (simp;done) | (simp;omega)))⟩
theorem kindRef (i g:Int) (nm fn:ByteArray) (ar:Int) (by_:ByteArray) (bt:Int) (p:Option Addr) (n c:Nat) (last:Int) (w:World) (hn:n ≤ c) (hc:c ≤ 9223372036854775807):Calls Tryz.prog 254 #[aggV ⟨3,i,g,nm,fn,ar,by_,bt⟩ (.slice p n c)] w (KPost ⟨3,i,g,nm,fn,ar,by_,bt⟩ (.slice p n c) n last w):=by
 have hb:bareF ⟨3,i,g,nm,fn,ar,by_,bt⟩ = ⟨3,0,0,⟨#[]⟩,fn,ar,by_,bt⟩:=by simp [bareF]
 have hv:bareV ⟨3,i,g,nm,fn,ar,by_,bt⟩ (.slice p n c) = Value.slice p n c:=by simp [bareV,nilV]
 have ho:okF ⟨3,i,g,nm,fn,ar,by_,bt⟩ n last = (inB i 1 2147483647 && (inB g 1 2147483647 && (vName nm))):=by simp [okF]
 unfold KPost;rw [hb,hv,ho];unfold aggV;dsimp only;clear hb hv ho
 by_cases h0:(inB i 1 2147483647) = true
 ·by_cases h1:(inB g 1 2147483647) = true
  ·by_cases h2:(vName nm) = true
   ·have hw0:=fun W=>within i 1 2147483647 W;rw [h0] at hw0;have hw1:=fun W=>within g 1 2147483647 W;rw [h1] at hw1;have hV2:=fun W=>Valid nm W;rw [h2] at hV2;rw [h0,h1,h2];go_enter Tryz.func254,Tryz.ntmps254;go_wp2_with fail;refine (hw0 _).mono ?_;rintro e w' ⟨rfl,rfl⟩;go_wp2_with fail;refine (hw1 _).mono ?_;rintro e w' ⟨rfl,rfl⟩;go_wp2_with fail;refine (hV2 _).mono ?_;rintro e w1 ⟨rfl,hb1⟩;have hz:w.heap.size + 1 < w1.heap.size:=by have:=hb1.size;simp at this;omega
    obtain ⟨hA,hR,hb⟩:=two_box (f:=⟨3,i,g,nm,fn,ar,by_,bt⟩) (v:=.slice p n c) hb1;have HA:=Lib.hid hA;have HR:=Lib.hid hR;obtain ⟨a0,a1,a2,a3,a4,a5,a6,a7,a8,az⟩:=hA;obtain ⟨r0,r1,r2,r3,r4,r5,r6,r7,r8,rz⟩:=hR;clear hb1;dsimp only [zeroF,nilV] at a0 a1 a2 a3 a4 a5 a6 a7 a8 r0 r1 r2 r3 r4 r5 r6 r7 r8;go_wp2_with fail
    exact bodyPost_ret (v:=(.tuple #[.agg #[.int .i64 3,.int .i64 0,.int .i64 0,.string ⟨#[]⟩,.string fn,.int .i64 ar,Value.slice p n c,.string by_,.int .i64 bt],.bool true])) (by simp [results,Tryz.results254,go_sem, *]) rfl ⟨by simp,by (repeat' (first | with_reducible exact hb | with_reducible exact Below.refl _ _ | with_reducible exact Nat.le_refl _ | with_reducible refine Below.setCell ?_ ?_ _ | with_reducible refine Below.alloc ?_ ?_ _ | (simp;done) | (simp;omega)))⟩
   ·have h2:(vName nm) = false:=by simpa using h2
    have hw0:=fun W=>within i 1 2147483647 W;rw [h0] at hw0;have hw1:=fun W=>within g 1 2147483647 W;rw [h1] at hw1;have hV2:=fun W=>Valid nm W;rw [h2] at hV2;rw [h0,h1,h2];go_enter Tryz.func254,Tryz.ntmps254;go_wp2_with fail;refine (hw0 _).mono ?_;rintro e w' ⟨rfl,rfl⟩;go_wp2_with fail;refine (hw1 _).mono ?_;rintro e w' ⟨rfl,rfl⟩;go_wp2_with fail;refine (hV2 _).mono ?_;rintro e w1 ⟨rfl,hb1⟩;have hz:w.heap.size + 1 < w1.heap.size:=by have:=hb1.size;simp at this;omega
    obtain ⟨hA,hR,hb⟩:=two_box (f:=⟨3,i,g,nm,fn,ar,by_,bt⟩) (v:=.slice p n c) hb1;have HA:=Lib.hid hA;have HR:=Lib.hid hR;obtain ⟨a0,a1,a2,a3,a4,a5,a6,a7,a8,az⟩:=hA;obtain ⟨r0,r1,r2,r3,r4,r5,r6,r7,r8,rz⟩:=hR;clear hb1;dsimp only [zeroF,nilV] at a0 a1 a2 a3 a4 a5 a6 a7 a8 r0 r1 r2 r3 r4 r5 r6 r7 r8;go_wp2_with fail
    exact bodyPost_ret (v:=(.tuple #[.agg #[.int .i64 3,.int .i64 0,.int .i64 0,.string ⟨#[]⟩,.string fn,.int .i64 ar,Value.slice p n c,.string by_,.int .i64 bt],.bool false])) (by simp [results,Tryz.results254,go_sem, *]) rfl ⟨by simp,by (repeat' (first | with_reducible exact hb | with_reducible exact Below.refl _ _ | with_reducible exact Nat.le_refl _ | with_reducible refine Below.setCell ?_ ?_ _ | with_reducible refine Below.alloc ?_ ?_ _ | (simp;done) | (simp;omega)))⟩
  ·have h1:(inB g 1 2147483647) = false:=by simpa using h1
   have hw0:=fun W=>within i 1 2147483647 W;rw [h0] at hw0;have hw1:=fun W=>within g 1 2147483647 W;rw [h1] at hw1;rw [h0,h1];go_enter Tryz.func254,Tryz.ntmps254;go_wp2_with fail;refine (hw0 _).mono ?_;rintro e w' ⟨rfl,rfl⟩;go_wp2_with fail;refine (hw1 _).mono ?_;rintro e w' ⟨rfl,rfl⟩;go_wp2_with fail
   exact bodyPost_ret (v:=(.tuple #[.agg #[.int .i64 3,.int .i64 0,.int .i64 0,.string ⟨#[]⟩,.string fn,.int .i64 ar,Value.slice p n c,.string by_,.int .i64 bt],.bool false])) (by simp [results,Tryz.results254,go_sem, *]) rfl ⟨by simp,by (repeat' (first | with_reducible exact hb | with_reducible exact Below.refl _ _ | with_reducible exact Nat.le_refl _ | with_reducible refine Below.setCell ?_ ?_ _ | with_reducible refine Below.alloc ?_ ?_ _ | (simp;done) | (simp;omega)))⟩
 ·have h0:(inB i 1 2147483647) = false:=by simpa using h0
  have hw0:=fun W=>within i 1 2147483647 W;rw [h0] at hw0;rw [h0];go_enter Tryz.func254,Tryz.ntmps254;go_wp2_with fail;refine (hw0 _).mono ?_;rintro e w' ⟨rfl,rfl⟩;go_wp2_with fail
  exact bodyPost_ret (v:=(.tuple #[.agg #[.int .i64 3,.int .i64 0,.int .i64 0,.string ⟨#[]⟩,.string fn,.int .i64 ar,Value.slice p n c,.string by_,.int .i64 bt],.bool false])) (by simp [results,Tryz.results254,go_sem, *]) rfl ⟨by simp,by (repeat' (first | with_reducible exact hb | with_reducible exact Below.refl _ _ | with_reducible exact Nat.le_refl _ | with_reducible refine Below.setCell ?_ ?_ _ | with_reducible refine Below.alloc ?_ ?_ _ | (simp;done) | (simp;omega)))⟩
theorem kindPid (i g:Int) (nm fn:ByteArray) (ar:Int) (by_:ByteArray) (bt:Int) (p:Option Addr) (n c:Nat) (last:Int) (w:World) (hn:n ≤ c) (hc:c ≤ 9223372036854775807):Calls Tryz.prog 254 #[aggV ⟨6,i,g,nm,fn,ar,by_,bt⟩ (.slice p n c)] w (KPost ⟨6,i,g,nm,fn,ar,by_,bt⟩ (.slice p n c) n last w):=by
 have hb:bareF ⟨6,i,g,nm,fn,ar,by_,bt⟩ = ⟨6,0,0,⟨#[]⟩,fn,ar,by_,bt⟩:=by simp [bareF]
 have hv:bareV ⟨6,i,g,nm,fn,ar,by_,bt⟩ (.slice p n c) = Value.slice p n c:=by simp [bareV,nilV]
 have ho:okF ⟨6,i,g,nm,fn,ar,by_,bt⟩ n last = (inB i 1 2147483647 && (inB g 1 2147483647 && (vName nm))):=by simp [okF]
 unfold KPost;rw [hb,hv,ho];unfold aggV;dsimp only;clear hb hv ho
 by_cases h0:(inB i 1 2147483647) = true
 ·by_cases h1:(inB g 1 2147483647) = true
  ·by_cases h2:(vName nm) = true
   ·have hw0:=fun W=>within i 1 2147483647 W;rw [h0] at hw0;have hw1:=fun W=>within g 1 2147483647 W;rw [h1] at hw1;have hV2:=fun W=>Valid nm W;rw [h2] at hV2;rw [h0,h1,h2];go_enter Tryz.func254,Tryz.ntmps254;go_wp2_with fail;refine (hw0 _).mono ?_;rintro e w' ⟨rfl,rfl⟩;go_wp2_with fail;refine (hw1 _).mono ?_;rintro e w' ⟨rfl,rfl⟩;go_wp2_with fail;refine (hV2 _).mono ?_;rintro e w1 ⟨rfl,hb1⟩;have hz:w.heap.size + 1 < w1.heap.size:=by have:=hb1.size;simp at this;omega
    obtain ⟨hA,hR,hb⟩:=two_box (f:=⟨6,i,g,nm,fn,ar,by_,bt⟩) (v:=.slice p n c) hb1;have HA:=Lib.hid hA;have HR:=Lib.hid hR;obtain ⟨a0,a1,a2,a3,a4,a5,a6,a7,a8,az⟩:=hA;obtain ⟨r0,r1,r2,r3,r4,r5,r6,r7,r8,rz⟩:=hR;clear hb1;dsimp only [zeroF,nilV] at a0 a1 a2 a3 a4 a5 a6 a7 a8 r0 r1 r2 r3 r4 r5 r6 r7 r8;go_wp2_with fail
    exact bodyPost_ret (v:=(.tuple #[.agg #[.int .i64 6,.int .i64 0,.int .i64 0,.string ⟨#[]⟩,.string fn,.int .i64 ar,Value.slice p n c,.string by_,.int .i64 bt],.bool true])) (by simp [results,Tryz.results254,go_sem, *]) rfl ⟨by simp,by (repeat' (first | with_reducible exact hb | with_reducible exact Below.refl _ _ | with_reducible exact Nat.le_refl _ | with_reducible refine Below.setCell ?_ ?_ _ | with_reducible refine Below.alloc ?_ ?_ _ | (simp;done) | (simp;omega)))⟩
   ·have h2:(vName nm) = false:=by simpa using h2
    have hw0:=fun W=>within i 1 2147483647 W;rw [h0] at hw0;have hw1:=fun W=>within g 1 2147483647 W;rw [h1] at hw1;have hV2:=fun W=>Valid nm W;rw [h2] at hV2;rw [h0,h1,h2];go_enter Tryz.func254,Tryz.ntmps254;go_wp2_with fail;refine (hw0 _).mono ?_;rintro e w' ⟨rfl,rfl⟩;go_wp2_with fail;refine (hw1 _).mono ?_;rintro e w' ⟨rfl,rfl⟩;go_wp2_with fail;refine (hV2 _).mono ?_;rintro e w1 ⟨rfl,hb1⟩;have hz:w.heap.size + 1 < w1.heap.size:=by have:=hb1.size;simp at this;omega
    obtain ⟨hA,hR,hb⟩:=two_box (f:=⟨6,i,g,nm,fn,ar,by_,bt⟩) (v:=.slice p n c) hb1;have HA:=Lib.hid hA;have HR:=Lib.hid hR;obtain ⟨a0,a1,a2,a3,a4,a5,a6,a7,a8,az⟩:=hA;obtain ⟨r0,r1,r2,r3,r4,r5,r6,r7,r8,rz⟩:=hR;clear hb1;dsimp only [zeroF,nilV] at a0 a1 a2 a3 a4 a5 a6 a7 a8 r0 r1 r2 r3 r4 r5 r6 r7 r8;go_wp2_with fail
    exact bodyPost_ret (v:=(.tuple #[.agg #[.int .i64 6,.int .i64 0,.int .i64 0,.string ⟨#[]⟩,.string fn,.int .i64 ar,Value.slice p n c,.string by_,.int .i64 bt],.bool false])) (by simp [results,Tryz.results254,go_sem, *]) rfl ⟨by simp,by (repeat' (first | with_reducible exact hb | with_reducible exact Below.refl _ _ | with_reducible exact Nat.le_refl _ | with_reducible refine Below.setCell ?_ ?_ _ | with_reducible refine Below.alloc ?_ ?_ _ | (simp;done) | (simp;omega)))⟩
  ·have h1:(inB g 1 2147483647) = false:=by simpa using h1
   have hw0:=fun W=>within i 1 2147483647 W;rw [h0] at hw0;have hw1:=fun W=>within g 1 2147483647 W;rw [h1] at hw1;rw [h0,h1];go_enter Tryz.func254,Tryz.ntmps254;go_wp2_with fail;refine (hw0 _).mono ?_;rintro e w' ⟨rfl,rfl⟩;go_wp2_with fail;refine (hw1 _).mono ?_;rintro e w' ⟨rfl,rfl⟩;go_wp2_with fail
   exact bodyPost_ret (v:=(.tuple #[.agg #[.int .i64 6,.int .i64 0,.int .i64 0,.string ⟨#[]⟩,.string fn,.int .i64 ar,Value.slice p n c,.string by_,.int .i64 bt],.bool false])) (by simp [results,Tryz.results254,go_sem, *]) rfl ⟨by simp,by (repeat' (first | with_reducible exact hb | with_reducible exact Below.refl _ _ | with_reducible exact Nat.le_refl _ | with_reducible refine Below.setCell ?_ ?_ _ | with_reducible refine Below.alloc ?_ ?_ _ | (simp;done) | (simp;omega)))⟩
 ·have h0:(inB i 1 2147483647) = false:=by simpa using h0
  have hw0:=fun W=>within i 1 2147483647 W;rw [h0] at hw0;rw [h0];go_enter Tryz.func254,Tryz.ntmps254;go_wp2_with fail;refine (hw0 _).mono ?_;rintro e w' ⟨rfl,rfl⟩;go_wp2_with fail
  exact bodyPost_ret (v:=(.tuple #[.agg #[.int .i64 6,.int .i64 0,.int .i64 0,.string ⟨#[]⟩,.string fn,.int .i64 ar,Value.slice p n c,.string by_,.int .i64 bt],.bool false])) (by simp [results,Tryz.results254,go_sem, *]) rfl ⟨by simp,by (repeat' (first | with_reducible exact hb | with_reducible exact Below.refl _ _ | with_reducible exact Nat.le_refl _ | with_reducible refine Below.setCell ?_ ?_ _ | with_reducible refine Below.alloc ?_ ?_ _ | (simp;done) | (simp;omega)))⟩
theorem kindClosure (i g:Int) (nm fn:ByteArray) (ar:Int) (by_:ByteArray) (bt:Int) (p:Option Addr) (n c:Nat) (last:Int) (w:World) (hn:n ≤ c) (hc:c ≤ 9223372036854775807):Calls Tryz.prog 259 #[aggV ⟨4,i,g,nm,fn,ar,by_,bt⟩ (.slice p n c)] w (KPost ⟨4,i,g,nm,fn,ar,by_,bt⟩ (.slice p n c) n last w):=by
 have hb:bareF ⟨4,i,g,nm,fn,ar,by_,bt⟩ = ⟨4,0,0,⟨#[]⟩,fn,0,by_,bt⟩:=by simp [bareF]
 have hv:bareV ⟨4,i,g,nm,fn,ar,by_,bt⟩ (.slice p n c) = Value.slice none 0 0:=by simp [bareV,nilV]
 have ho:okF ⟨4,i,g,nm,fn,ar,by_,bt⟩ n last = (inB i 0 999 && (inB g 1 2147483647 && (vName nm && (inB ar 0 16 && (decide (n ≤ 200)))))):=by simp [okF]
 unfold KPost;rw [hb,hv,ho];unfold aggV;dsimp only;clear hb hv ho
 by_cases h0:(inB i 0 999) = true
 ·by_cases h1:(inB g 1 2147483647) = true
  ·by_cases h2:(vName nm) = true
   ·by_cases h3:(inB ar 0 16) = true
    ·by_cases h4:(decide (n ≤ 200)) = true
     ·have hw0:=fun W=>within i 0 999 W;rw [h0] at hw0;have hw1:=fun W=>within g 1 2147483647 W;rw [h1] at hw1;have hV2:=fun W=>Valid nm W;rw [h2] at hV2;have hw3:=fun W=>within ar 0 16 W;rw [h3] at hw3;have q4:(n:Int) ≤ 200:=by have:=of_decide_eq_true h4;omega
      rw [h0,h1,h2,h3,h4];go_enter Tryz.func259,Tryz.ntmps259;go_wp2_with fail;refine (hw0 _).mono ?_;rintro e w' ⟨rfl,rfl⟩;go_wp2_with fail;refine (hw1 _).mono ?_;rintro e w' ⟨rfl,rfl⟩;go_wp2_with fail;refine (hV2 _).mono ?_;rintro e w1 ⟨rfl,hb1⟩;have hz:w.heap.size + 1 < w1.heap.size:=by have:=hb1.size;simp at this;omega
      obtain ⟨hA,hR,hb⟩:=two_box (f:=⟨4,i,g,nm,fn,ar,by_,bt⟩) (v:=.slice p n c) hb1;have HA:=Lib.hid hA;have HR:=Lib.hid hR;obtain ⟨a0,a1,a2,a3,a4,a5,a6,a7,a8,az⟩:=hA;obtain ⟨r0,r1,r2,r3,r4,r5,r6,r7,r8,rz⟩:=hR;clear hb1;dsimp only [zeroF,nilV] at a0 a1 a2 a3 a4 a5 a6 a7 a8 r0 r1 r2 r3 r4 r5 r6 r7 r8;go_wp2_with fail;refine (hw3 _).mono ?_;rintro e w' ⟨rfl,rfl⟩;go_wp2_with fail
      exact bodyPost_ret (v:=(.tuple #[.agg #[.int .i64 4,.int .i64 0,.int .i64 0,.string ⟨#[]⟩,.string fn,.int .i64 0,Value.slice none 0 0,.string by_,.int .i64 bt],.bool true])) (by simp [results,Tryz.results259,go_sem, *]) rfl ⟨by simp,by (repeat' (first | with_reducible exact hb | with_reducible exact Below.refl _ _ | with_reducible exact Nat.le_refl _ | with_reducible refine Below.setCell ?_ ?_ _ | with_reducible refine Below.alloc ?_ ?_ _ | (simp;done) | (simp;omega)))⟩
     ·have h4:(decide (n ≤ 200)) = false:=by simpa using h4
      have hw0:=fun W=>within i 0 999 W;rw [h0] at hw0;have hw1:=fun W=>within g 1 2147483647 W;rw [h1] at hw1;have hV2:=fun W=>Valid nm W;rw [h2] at hV2;have hw3:=fun W=>within ar 0 16 W;rw [h3] at hw3;have q4:(200:Int) < (n:Int):=by have:=of_decide_eq_false h4;omega
      rw [h0,h1,h2,h3,h4];go_enter Tryz.func259,Tryz.ntmps259;go_wp2_with fail;refine (hw0 _).mono ?_;rintro e w' ⟨rfl,rfl⟩;go_wp2_with fail;refine (hw1 _).mono ?_;rintro e w' ⟨rfl,rfl⟩;go_wp2_with fail;refine (hV2 _).mono ?_;rintro e w1 ⟨rfl,hb1⟩;have hz:w.heap.size + 1 < w1.heap.size:=by have:=hb1.size;simp at this;omega
      obtain ⟨hA,hR,hb⟩:=two_box (f:=⟨4,i,g,nm,fn,ar,by_,bt⟩) (v:=.slice p n c) hb1;have HA:=Lib.hid hA;have HR:=Lib.hid hR;obtain ⟨a0,a1,a2,a3,a4,a5,a6,a7,a8,az⟩:=hA;obtain ⟨r0,r1,r2,r3,r4,r5,r6,r7,r8,rz⟩:=hR;clear hb1;dsimp only [zeroF,nilV] at a0 a1 a2 a3 a4 a5 a6 a7 a8 r0 r1 r2 r3 r4 r5 r6 r7 r8;go_wp2_with fail;refine (hw3 _).mono ?_;rintro e w' ⟨rfl,rfl⟩;go_wp2_with fail
      exact bodyPost_ret (v:=(.tuple #[.agg #[.int .i64 4,.int .i64 0,.int .i64 0,.string ⟨#[]⟩,.string fn,.int .i64 0,Value.slice none 0 0,.string by_,.int .i64 bt],.bool false])) (by simp [results,Tryz.results259,go_sem, *]) rfl ⟨by simp,by (repeat' (first | with_reducible exact hb | with_reducible exact Below.refl _ _ | with_reducible exact Nat.le_refl _ | with_reducible refine Below.setCell ?_ ?_ _ | with_reducible refine Below.alloc ?_ ?_ _ | (simp;done) | (simp;omega)))⟩
    ·have h3:(inB ar 0 16) = false:=by simpa using h3
     have hw0:=fun W=>within i 0 999 W;rw [h0] at hw0;have hw1:=fun W=>within g 1 2147483647 W;rw [h1] at hw1;have hV2:=fun W=>Valid nm W;rw [h2] at hV2;have hw3:=fun W=>within ar 0 16 W;rw [h3] at hw3;rw [h0,h1,h2,h3];go_enter Tryz.func259,Tryz.ntmps259;go_wp2_with fail;refine (hw0 _).mono ?_;rintro e w' ⟨rfl,rfl⟩;go_wp2_with fail;refine (hw1 _).mono ?_;rintro e w' ⟨rfl,rfl⟩;go_wp2_with fail;refine (hV2 _).mono ?_;rintro e w1 ⟨rfl,hb1⟩;have hz:w.heap.size + 1 < w1.heap.size:=by have:=hb1.size;simp at this;omega
     obtain ⟨hA,hR,hb⟩:=two_box (f:=⟨4,i,g,nm,fn,ar,by_,bt⟩) (v:=.slice p n c) hb1;have HA:=Lib.hid hA;have HR:=Lib.hid hR;obtain ⟨a0,a1,a2,a3,a4,a5,a6,a7,a8,az⟩:=hA;obtain ⟨r0,r1,r2,r3,r4,r5,r6,r7,r8,rz⟩:=hR;clear hb1;dsimp only [zeroF,nilV] at a0 a1 a2 a3 a4 a5 a6 a7 a8 r0 r1 r2 r3 r4 r5 r6 r7 r8;go_wp2_with fail;refine (hw3 _).mono ?_;rintro e w' ⟨rfl,rfl⟩;go_wp2_with fail
     exact bodyPost_ret (v:=(.tuple #[.agg #[.int .i64 4,.int .i64 0,.int .i64 0,.string ⟨#[]⟩,.string fn,.int .i64 0,Value.slice none 0 0,.string by_,.int .i64 bt],.bool false])) (by simp [results,Tryz.results259,go_sem, *]) rfl ⟨by simp,by (repeat' (first | with_reducible exact hb | with_reducible exact Below.refl _ _ | with_reducible exact Nat.le_refl _ | with_reducible refine Below.setCell ?_ ?_ _ | with_reducible refine Below.alloc ?_ ?_ _ | (simp;done) | (simp;omega)))⟩
   ·have h2:(vName nm) = false:=by simpa using h2
    have hw0:=fun W=>within i 0 999 W;rw [h0] at hw0;have hw1:=fun W=>within g 1 2147483647 W;rw [h1] at hw1;have hV2:=fun W=>Valid nm W;rw [h2] at hV2;rw [h0,h1,h2];go_enter Tryz.func259,Tryz.ntmps259;go_wp2_with fail;refine (hw0 _).mono ?_;rintro e w' ⟨rfl,rfl⟩;go_wp2_with fail;refine (hw1 _).mono ?_;rintro e w' ⟨rfl,rfl⟩;go_wp2_with fail;refine (hV2 _).mono ?_;rintro e w1 ⟨rfl,hb1⟩;have hz:w.heap.size + 1 < w1.heap.size:=by have:=hb1.size;simp at this;omega
    obtain ⟨hA,hR,hb⟩:=two_box (f:=⟨4,i,g,nm,fn,ar,by_,bt⟩) (v:=.slice p n c) hb1;have HA:=Lib.hid hA;have HR:=Lib.hid hR;obtain ⟨a0,a1,a2,a3,a4,a5,a6,a7,a8,az⟩:=hA;obtain ⟨r0,r1,r2,r3,r4,r5,r6,r7,r8,rz⟩:=hR;clear hb1;dsimp only [zeroF,nilV] at a0 a1 a2 a3 a4 a5 a6 a7 a8 r0 r1 r2 r3 r4 r5 r6 r7 r8;go_wp2_with fail
    exact bodyPost_ret (v:=(.tuple #[.agg #[.int .i64 4,.int .i64 0,.int .i64 0,.string ⟨#[]⟩,.string fn,.int .i64 0,Value.slice none 0 0,.string by_,.int .i64 bt],.bool false])) (by simp [results,Tryz.results259,go_sem, *]) rfl ⟨by simp,by (repeat' (first | with_reducible exact hb | with_reducible exact Below.refl _ _ | with_reducible exact Nat.le_refl _ | with_reducible refine Below.setCell ?_ ?_ _ | with_reducible refine Below.alloc ?_ ?_ _ | (simp;done) | (simp;omega)))⟩
  ·have h1:(inB g 1 2147483647) = false:=by simpa using h1
   have hw0:=fun W=>within i 0 999 W;rw [h0] at hw0;have hw1:=fun W=>within g 1 2147483647 W;rw [h1] at hw1;rw [h0,h1];go_enter Tryz.func259,Tryz.ntmps259;go_wp2_with fail;refine (hw0 _).mono ?_;rintro e w' ⟨rfl,rfl⟩;go_wp2_with fail;refine (hw1 _).mono ?_;rintro e w' ⟨rfl,rfl⟩;go_wp2_with fail
   exact bodyPost_ret (v:=(.tuple #[.agg #[.int .i64 4,.int .i64 0,.int .i64 0,.string ⟨#[]⟩,.string fn,.int .i64 0,Value.slice none 0 0,.string by_,.int .i64 bt],.bool false])) (by simp [results,Tryz.results259,go_sem, *]) rfl ⟨by simp,by (repeat' (first | with_reducible exact hb | with_reducible exact Below.refl _ _ | with_reducible exact Nat.le_refl _ | with_reducible refine Below.setCell ?_ ?_ _ | with_reducible refine Below.alloc ?_ ?_ _ | (simp;done) | (simp;omega)))⟩
 ·have h0:(inB i 0 999) = false:=by simpa using h0
  have hw0:=fun W=>within i 0 999 W;rw [h0] at hw0;rw [h0];go_enter Tryz.func259,Tryz.ntmps259;go_wp2_with fail;refine (hw0 _).mono ?_;rintro e w' ⟨rfl,rfl⟩;go_wp2_with fail
  exact bodyPost_ret (v:=(.tuple #[.agg #[.int .i64 4,.int .i64 0,.int .i64 0,.string ⟨#[]⟩,.string fn,.int .i64 0,Value.slice none 0 0,.string by_,.int .i64 bt],.bool false])) (by simp [results,Tryz.results259,go_sem, *]) rfl ⟨by simp,by (repeat' (first | with_reducible exact hb | with_reducible exact Below.refl _ _ | with_reducible exact Nat.le_refl _ | with_reducible refine Below.setCell ?_ ?_ _ | with_reducible refine Below.alloc ?_ ?_ _ | (simp;done) | (simp;omega)))⟩
theorem kindExport (i g:Int) (nm fn:ByteArray) (ar:Int) (by_:ByteArray) (bt:Int) (p:Option Addr) (n c:Nat) (last:Int) (w:World) (hn:n ≤ c) (hc:c ≤ 9223372036854775807):Calls Tryz.prog 260 #[aggV ⟨5,i,g,nm,fn,ar,by_,bt⟩ (.slice p n c)] w (KPost ⟨5,i,g,nm,fn,ar,by_,bt⟩ (.slice p n c) n last w):=by
 have hb:bareF ⟨5,i,g,nm,fn,ar,by_,bt⟩ = ⟨5,i,g,⟨#[]⟩,⟨#[]⟩,0,by_,bt⟩:=by simp [bareF]
 have hv:bareV ⟨5,i,g,nm,fn,ar,by_,bt⟩ (.slice p n c) = Value.slice p n c:=by simp [bareV,nilV]
 have ho:okF ⟨5,i,g,nm,fn,ar,by_,bt⟩ n last = (vName nm && (vName fn && (inB ar 0 16))):=by simp [okF]
 unfold KPost;rw [hb,hv,ho];unfold aggV;dsimp only;clear hb hv ho
 by_cases h0:(vName nm) = true
 ·by_cases h1:(vName fn) = true
  ·by_cases h2:(inB ar 0 16) = true
   ·have hV0:=fun W=>Valid nm W;rw [h0] at hV0;have hV1:=fun W=>Valid fn W;rw [h1] at hV1;have hw2:=fun W=>within ar 0 16 W;rw [h2] at hw2;rw [h0,h1,h2];go_enter Tryz.func260,Tryz.ntmps260;go_wp2_with fail;refine (hV0 _).mono ?_;rintro e w1 ⟨rfl,hb1⟩;have hz:w.heap.size + 1 < w1.heap.size:=by have:=hb1.size;simp at this;omega
    obtain ⟨hA,hR,hb⟩:=two_box (f:=⟨5,i,g,nm,fn,ar,by_,bt⟩) (v:=.slice p n c) hb1;have HA:=Lib.hid hA;have HR:=Lib.hid hR;obtain ⟨a0,a1,a2,a3,a4,a5,a6,a7,a8,az⟩:=hA;obtain ⟨r0,r1,r2,r3,r4,r5,r6,r7,r8,rz⟩:=hR;clear hb1;dsimp only [zeroF,nilV] at a0 a1 a2 a3 a4 a5 a6 a7 a8 r0 r1 r2 r3 r4 r5 r6 r7 r8;go_wp2_with fail;refine (hV1 _).mono ?_;rintro e w2 ⟨rfl,hb2⟩;have hA:=HA.out.below hb2 (by omega);have hR:=HR.out.below hb2 (by omega);have hz:w.heap.size + 1 < w2.heap.size:=by have:=hb2.size;omega
    have hb:=hb.trans (hb2.mono (by omega));clear hb2 a0 a1 a2 a3 a4 a5 a6 a7 a8 az r0 r1 r2 r3 r4 r5 r6 r7 r8 rz;have HA:=Lib.hid hA;have HR:=Lib.hid hR;obtain ⟨a0,a1,a2,a3,a4,a5,a6,a7,a8,az⟩:=hA;obtain ⟨r0,r1,r2,r3,r4,r5,r6,r7,r8,rz⟩:=hR;dsimp only [zeroF,nilV] at a0 a1 a2 a3 a4 a5 a6 a7 a8 r0 r1 r2 r3 r4 r5 r6 r7 r8;go_wp2_with fail;refine (hw2 _).mono ?_;rintro e w' ⟨rfl,rfl⟩;go_wp2_with fail
    exact bodyPost_ret (v:=(.tuple #[.agg #[.int .i64 5,.int .i64 i,.int .i64 g,.string ⟨#[]⟩,.string ⟨#[]⟩,.int .i64 0,Value.slice p n c,.string by_,.int .i64 bt],.bool true])) (by simp [results,Tryz.results260,go_sem, *]) rfl ⟨by simp,by (repeat' (first | with_reducible exact hb | with_reducible exact Below.refl _ _ | with_reducible exact Nat.le_refl _ | with_reducible refine Below.setCell ?_ ?_ _ | with_reducible refine Below.alloc ?_ ?_ _ | (simp;done) | (simp;omega)))⟩
   ·have h2:(inB ar 0 16) = false:=by simpa using h2
    have hV0:=fun W=>Valid nm W;rw [h0] at hV0;have hV1:=fun W=>Valid fn W;rw [h1] at hV1;have hw2:=fun W=>within ar 0 16 W;rw [h2] at hw2;rw [h0,h1,h2];go_enter Tryz.func260,Tryz.ntmps260;go_wp2_with fail;refine (hV0 _).mono ?_;rintro e w1 ⟨rfl,hb1⟩;have hz:w.heap.size + 1 < w1.heap.size:=by have:=hb1.size;simp at this;omega
    obtain ⟨hA,hR,hb⟩:=two_box (f:=⟨5,i,g,nm,fn,ar,by_,bt⟩) (v:=.slice p n c) hb1;have HA:=Lib.hid hA;have HR:=Lib.hid hR;obtain ⟨a0,a1,a2,a3,a4,a5,a6,a7,a8,az⟩:=hA;obtain ⟨r0,r1,r2,r3,r4,r5,r6,r7,r8,rz⟩:=hR;clear hb1;dsimp only [zeroF,nilV] at a0 a1 a2 a3 a4 a5 a6 a7 a8 r0 r1 r2 r3 r4 r5 r6 r7 r8;go_wp2_with fail;refine (hV1 _).mono ?_;rintro e w2 ⟨rfl,hb2⟩;have hA:=HA.out.below hb2 (by omega);have hR:=HR.out.below hb2 (by omega);have hz:w.heap.size + 1 < w2.heap.size:=by have:=hb2.size;omega
    have hb:=hb.trans (hb2.mono (by omega));clear hb2 a0 a1 a2 a3 a4 a5 a6 a7 a8 az r0 r1 r2 r3 r4 r5 r6 r7 r8 rz;have HA:=Lib.hid hA;have HR:=Lib.hid hR;obtain ⟨a0,a1,a2,a3,a4,a5,a6,a7,a8,az⟩:=hA;obtain ⟨r0,r1,r2,r3,r4,r5,r6,r7,r8,rz⟩:=hR;dsimp only [zeroF,nilV] at a0 a1 a2 a3 a4 a5 a6 a7 a8 r0 r1 r2 r3 r4 r5 r6 r7 r8;go_wp2_with fail;refine (hw2 _).mono ?_;rintro e w' ⟨rfl,rfl⟩;go_wp2_with fail
    exact bodyPost_ret (v:=(.tuple #[.agg #[.int .i64 5,.int .i64 i,.int .i64 g,.string ⟨#[]⟩,.string ⟨#[]⟩,.int .i64 0,Value.slice p n c,.string by_,.int .i64 bt],.bool false])) (by simp [results,Tryz.results260,go_sem, *]) rfl ⟨by simp,by (repeat' (first | with_reducible exact hb | with_reducible exact Below.refl _ _ | with_reducible exact Nat.le_refl _ | with_reducible refine Below.setCell ?_ ?_ _ | with_reducible refine Below.alloc ?_ ?_ _ | (simp;done) | (simp;omega)))⟩
  ·have h1:(vName fn) = false:=by simpa using h1
   have hV0:=fun W=>Valid nm W;rw [h0] at hV0;have hV1:=fun W=>Valid fn W;rw [h1] at hV1;rw [h0,h1];go_enter Tryz.func260,Tryz.ntmps260;go_wp2_with fail;refine (hV0 _).mono ?_;rintro e w1 ⟨rfl,hb1⟩;have hz:w.heap.size + 1 < w1.heap.size:=by have:=hb1.size;simp at this;omega
   obtain ⟨hA,hR,hb⟩:=two_box (f:=⟨5,i,g,nm,fn,ar,by_,bt⟩) (v:=.slice p n c) hb1;have HA:=Lib.hid hA;have HR:=Lib.hid hR;obtain ⟨a0,a1,a2,a3,a4,a5,a6,a7,a8,az⟩:=hA;obtain ⟨r0,r1,r2,r3,r4,r5,r6,r7,r8,rz⟩:=hR;clear hb1;dsimp only [zeroF,nilV] at a0 a1 a2 a3 a4 a5 a6 a7 a8 r0 r1 r2 r3 r4 r5 r6 r7 r8;go_wp2_with fail;refine (hV1 _).mono ?_;rintro e w2 ⟨rfl,hb2⟩;have hA:=HA.out.below hb2 (by omega);have hR:=HR.out.below hb2 (by omega);have hz:w.heap.size + 1 < w2.heap.size:=by have:=hb2.size;omega
   have hb:=hb.trans (hb2.mono (by omega));clear hb2 a0 a1 a2 a3 a4 a5 a6 a7 a8 az r0 r1 r2 r3 r4 r5 r6 r7 r8 rz;have HA:=Lib.hid hA;have HR:=Lib.hid hR;obtain ⟨a0,a1,a2,a3,a4,a5,a6,a7,a8,az⟩:=hA;obtain ⟨r0,r1,r2,r3,r4,r5,r6,r7,r8,rz⟩:=hR;dsimp only [zeroF,nilV] at a0 a1 a2 a3 a4 a5 a6 a7 a8 r0 r1 r2 r3 r4 r5 r6 r7 r8;go_wp2_with fail
   exact bodyPost_ret (v:=(.tuple #[.agg #[.int .i64 5,.int .i64 i,.int .i64 g,.string ⟨#[]⟩,.string ⟨#[]⟩,.int .i64 0,Value.slice p n c,.string by_,.int .i64 bt],.bool false])) (by simp [results,Tryz.results260,go_sem, *]) rfl ⟨by simp,by (repeat' (first | with_reducible exact hb | with_reducible exact Below.refl _ _ | with_reducible exact Nat.le_refl _ | with_reducible refine Below.setCell ?_ ?_ _ | with_reducible refine Below.alloc ?_ ?_ _ | (simp;done) | (simp;omega)))⟩
 ·have h0:(vName nm) = false:=by simpa using h0
  have hV0:=fun W=>Valid nm W;rw [h0] at hV0;rw [h0];go_enter Tryz.func260,Tryz.ntmps260;go_wp2_with fail;refine (hV0 _).mono ?_;rintro e w1 ⟨rfl,hb1⟩;have hz:w.heap.size + 1 < w1.heap.size:=by have:=hb1.size;simp at this;omega
  obtain ⟨hA,hR,hb⟩:=two_box (f:=⟨5,i,g,nm,fn,ar,by_,bt⟩) (v:=.slice p n c) hb1;have HA:=Lib.hid hA;have HR:=Lib.hid hR;obtain ⟨a0,a1,a2,a3,a4,a5,a6,a7,a8,az⟩:=hA;obtain ⟨r0,r1,r2,r3,r4,r5,r6,r7,r8,rz⟩:=hR;clear hb1;dsimp only [zeroF,nilV] at a0 a1 a2 a3 a4 a5 a6 a7 a8 r0 r1 r2 r3 r4 r5 r6 r7 r8;go_wp2_with fail
  exact bodyPost_ret (v:=(.tuple #[.agg #[.int .i64 5,.int .i64 i,.int .i64 g,.string ⟨#[]⟩,.string ⟨#[]⟩,.int .i64 0,Value.slice p n c,.string by_,.int .i64 bt],.bool false])) (by simp [results,Tryz.results260,go_sem, *]) rfl ⟨by simp,by (repeat' (first | with_reducible exact hb | with_reducible exact Below.refl _ _ | with_reducible exact Nat.le_refl _ | with_reducible refine Below.setCell ?_ ?_ _ | with_reducible refine Below.alloc ?_ ?_ _ | (simp;done) | (simp;omega)))⟩
theorem kindTuple (i g:Int) (nm fn:ByteArray) (ar:Int) (by_:ByteArray) (bt:Int) (p:Option Addr) (n c:Nat) (last:Int) (w:World) (hn:n ≤ c) (hc:c ≤ 9223372036854775807):Calls Tryz.prog 261 #[aggV ⟨7,i,g,nm,fn,ar,by_,bt⟩ (.slice p n c)] w (KPost ⟨7,i,g,nm,fn,ar,by_,bt⟩ (.slice p n c) n last w):=by
 have hb:bareF ⟨7,i,g,nm,fn,ar,by_,bt⟩ = ⟨7,i,g,nm,fn,ar,by_,bt⟩:=by simp [bareF]
 have hv:bareV ⟨7,i,g,nm,fn,ar,by_,bt⟩ (.slice p n c) = Value.slice none 0 0:=by simp [bareV,nilV]
 have ho:okF ⟨7,i,g,nm,fn,ar,by_,bt⟩ n last = (decide (n ≤ 255)):=by simp [okF]
 unfold KPost;rw [hb,hv,ho];unfold aggV;dsimp only;clear hb hv ho
 by_cases h0:(decide (n ≤ 255)) = true
 ·have q0:(n:Int) ≤ 255:=by have:=of_decide_eq_true h0;omega
  rw [h0];go_enter Tryz.func261,Tryz.ntmps261;go_wp2_with fail;exact bodyPost_ret (v:=(.tuple #[.agg #[.int .i64 7,.int .i64 i,.int .i64 g,.string nm,.string fn,.int .i64 ar,Value.slice none 0 0,.string by_,.int .i64 bt],.bool true])) (by simp [results,Tryz.results261,go_sem, *]) rfl ⟨by simp,by (repeat' (first | with_reducible exact hb | with_reducible exact Below.refl _ _ | with_reducible exact Nat.le_refl _ | with_reducible refine Below.setCell ?_ ?_ _ | with_reducible refine Below.alloc ?_ ?_ _ | (simp;done) | (simp;omega)))⟩
 ·have h0:(decide (n ≤ 255)) = false:=by simpa using h0
  have q0:(255:Int) < (n:Int):=by have:=of_decide_eq_false h0;omega
  rw [h0];go_enter Tryz.func261,Tryz.ntmps261;go_wp2_with fail;exact bodyPost_ret (v:=(.tuple #[.agg #[.int .i64 7,.int .i64 i,.int .i64 g,.string nm,.string fn,.int .i64 ar,Value.slice none 0 0,.string by_,.int .i64 bt],.bool false])) (by simp [results,Tryz.results261,go_sem, *]) rfl ⟨by simp,by (repeat' (first | with_reducible exact hb | with_reducible exact Below.refl _ _ | with_reducible exact Nat.le_refl _ | with_reducible refine Below.setCell ?_ ?_ _ | with_reducible refine Below.alloc ?_ ?_ _ | (simp;done) | (simp;omega)))⟩
theorem kindNil (i g:Int) (nm fn:ByteArray) (ar:Int) (by_:ByteArray) (bt:Int) (p:Option Addr) (n c:Nat) (last:Int) (w:World) (hn:n ≤ c) (hc:c ≤ 9223372036854775807):Calls Tryz.prog 262 #[aggV ⟨8,i,g,nm,fn,ar,by_,bt⟩ (.slice p n c)] w (KPost ⟨8,i,g,nm,fn,ar,by_,bt⟩ (.slice p n c) n last w):=by
 have hb:bareF ⟨8,i,g,nm,fn,ar,by_,bt⟩ = ⟨8,i,g,nm,fn,ar,by_,bt⟩:=by simp [bareF]
 have hv:bareV ⟨8,i,g,nm,fn,ar,by_,bt⟩ (.slice p n c) = Value.slice p n c:=by simp [bareV,nilV]
 have ho:okF ⟨8,i,g,nm,fn,ar,by_,bt⟩ n last = (true):=by simp [okF]
 unfold KPost;rw [hb,hv,ho];unfold aggV;dsimp only;clear hb hv ho;go_enter Tryz.func262,Tryz.ntmps262;go_wp2_with fail;exact bodyPost_ret (v:=(.tuple #[.agg #[.int .i64 8,.int .i64 i,.int .i64 g,.string nm,.string fn,.int .i64 ar,Value.slice p n c,.string by_,.int .i64 bt],.bool true])) (by simp [results,Tryz.results262,go_sem, *]) rfl ⟨by simp,by (repeat' (first | with_reducible exact hb | with_reducible exact Below.refl _ _ | with_reducible exact Nat.le_refl _ | with_reducible refine Below.setCell ?_ ?_ _ | with_reducible refine Below.alloc ?_ ?_ _ | (simp;done) | (simp;omega)))⟩
theorem kindList (i g:Int) (nm fn:ByteArray) (ar:Int) (by_:ByteArray) (bt:Int) (p:Option Addr) (n c:Nat) (last:Int) (w:World) (hn:n ≤ c) (hc:c ≤ 9223372036854775807)
 (hl:2 ≤ n→∃ g0 o0,p = some ⟨g0,o0,none⟩∧w.cell? ⟨g0,o0 + (n - 1) * 9,none⟩ = some (.int .i64 last)∧g0 < w.heap.size) :
 Calls Tryz.prog 263 #[aggV ⟨9,i,g,nm,fn,ar,by_,bt⟩ (.slice p n c)] w (KPost ⟨9,i,g,nm,fn,ar,by_,bt⟩ (.slice p n c) n last w):=by
 have hb:bareF ⟨9,i,g,nm,fn,ar,by_,bt⟩ = ⟨9,i,g,nm,fn,ar,by_,bt⟩:=by simp [bareF]
 have hv:bareV ⟨9,i,g,nm,fn,ar,by_,bt⟩ (.slice p n c) = .slice none 0 0:=by simp [bareV,nilV]
 have ho:okF ⟨9,i,g,nm,fn,ar,by_,bt⟩ n last = (decide (2 ≤ n) && decide (last ≠ 9)):=by simp [okF]
 unfold KPost;rw [hb,hv,ho];unfold aggV;dsimp only;clear hb hv ho
 by_cases h0:2 ≤ n
 ·rw [decide_eq_true h0];obtain ⟨g0,o0,rfl,hcell,hg0⟩:=hl h0;obtain ⟨m,rfl⟩:∃ m,n = m + 2:=⟨n - 2,by omega⟩;rw [show m + 2 - 1 = m + 1 by omega] at hcell;clear hl;have hc1:∀ o1 o2:Obj,((w.alloc o1).alloc o2).cell? ⟨g0,o0 + (m + 1) * 9,none⟩ = some (.int .i64 last):=fun o1 o2=>by
   rw [World.cell?_alloc_lt _ _ _ (by simp;omega),World.cell?_alloc_lt _ _ _ hg0];exact hcell
  by_cases h1:last ≠ 9
  ·have hq:(last != 9) = true:=by simpa using h1
   rw [decide_eq_true h1];clear h1;go_enter Tryz.func263,Tryz.ntmps263;go_wp2_with fail;exact bodyPost_ret (v:=(.tuple #[.agg #[.int .i64 9,.int .i64 i,.int .i64 g,.string nm,.string fn,.int .i64 ar,.slice none 0 0,.string by_,.int .i64 bt],.bool true])) (by simp [results,Tryz.results263,go_sem, *]) rfl ⟨by simp,by (repeat' (first | with_reducible exact Below.refl _ _ | with_reducible exact Nat.le_refl _ | with_reducible refine Below.setCell ?_ ?_ _ | with_reducible refine Below.alloc ?_ ?_ _ | (simp;done) | (simp;omega)))⟩
  ·have hq:(last != 9) = false:=by simpa using h1
   rw [decide_eq_false h1];clear h1;go_enter Tryz.func263,Tryz.ntmps263;go_wp2_with fail;exact bodyPost_ret (v:=(.tuple #[.agg #[.int .i64 9,.int .i64 i,.int .i64 g,.string nm,.string fn,.int .i64 ar,.slice none 0 0,.string by_,.int .i64 bt],.bool false])) (by simp [results,Tryz.results263,go_sem, *]) rfl ⟨by simp,by (repeat' (first | with_reducible exact Below.refl _ _ | with_reducible exact Nat.le_refl _ | with_reducible refine Below.setCell ?_ ?_ _ | with_reducible refine Below.alloc ?_ ?_ _ | (simp;done) | (simp;omega)))⟩
 ·rw [decide_eq_false h0];have hq:(n:Int) < 2:=by omega
  clear hl;go_enter Tryz.func263,Tryz.ntmps263;go_wp2_with fail;exact bodyPost_ret (v:=(.tuple #[.agg #[.int .i64 9,.int .i64 i,.int .i64 g,.string nm,.string fn,.int .i64 ar,.slice none 0 0,.string by_,.int .i64 bt],.bool false])) (by simp [results,Tryz.results263,go_sem, *]) rfl ⟨by simp,by (repeat' (first | with_reducible exact Below.refl _ _ | with_reducible exact Nat.le_refl _ | with_reducible refine Below.setCell ?_ ?_ _ | with_reducible refine Below.alloc ?_ ?_ _ | (simp;done) | (simp;omega)))⟩
def lastK:(n:Nat)→List (Tm n)→Int
 | 0,_=>0
 | n + 1,l=>(l.getLast?.map (fun t=>t.f.kind)).getD 0
noncomputable def bareOK (f:TF) (k:Nat):Bool:=eqB { bareF f with kind:=0 } zeroF && decide ((if f.kind = 4∨f.kind = 7∨f.kind = 9 then 0 else k) = 0)
noncomputable def okT {n:Nat} (t:Tm (n + 1)):Bool:=inB t.f.kind 0 10 && (okF t.f t.items.length (lastK n t.items) && bareOK t.f t.items.length)
noncomputable def formedL:(n:Nat)→List (Tm n)→Bool
 | 0,_=>true
 | n + 1,l=>l.all (fun t=>okT t && formedL n t.items)
noncomputable def formedT {n:Nat} (t:Tm (n + 1)):Bool:=okT t && formedL n t.items
def sizeF (f:TF) (k:Nat):Int:=if f.kind = 9 then (k:Int) - 1 else if f.kind = 10 then 1 + (f.bits + 63) / 64 else 1
def wholeL:(n:Nat)→List (Tm n)→Int
 | 0,_=>0
 | n + 1,l=>(l.map (fun t=>sizeF t.f t.items.length + wholeL n t.items)).sum
def wholeT {n:Nat} (t:Tm (n + 1)):Int:=sizeF t.f t.items.length + wholeL n t.items
def nodesL:(n:Nat)→List (Tm n)→Nat
 | 0,_=>0
 | n + 1,l=>(l.map (fun t=>1 + nodesL n t.items)).sum
def nodesT {n:Nat} (t:Tm (n + 1)):Nat:=1 + nodesL n t.items
theorem nodes_len:∀ (n:Nat) (l:List (Tm n)),l.length ≤ nodesL n l:=by
 intro n;cases n with
 | zero=>intro l;rw [Tm.nil0 l];simp
 | succ n =>
  intro l
  induction l with
  | nil=>simp [nodesL]
  | cons t l ih =>
   have e:nodesL (n + 1) (t :: l) = (1 + nodesL n t.items) + nodesL (n + 1) l:=by simp [nodesL]
   rw [e];simp;omega
theorem nodes_mem {n:Nat} {l:List (Tm (n + 1))} {k:Nat} (h:k < l.length):nodesL (n + 1) (l.take k) + nodesT l[k] + nodesL (n + 1) (l.drop (k + 1)) = nodesL (n + 1) l:=by
 have e:nodesL (n + 1) l = nodesL (n + 1) (l.take k ++ l[k] :: l.drop (k + 1)):=by rw [← List.drop_eq_getElem_cons h,List.take_append_drop]
 rw [e];unfold nodesL nodesT;simp only [List.map_append,List.map_cons,List.sum_append,List.sum_cons];omega
theorem whole_snoc {n:Nat} (l:List (Tm (n + 1))) (k:Nat) (h:k < l.length):wholeL (n + 1) (l.take (k + 1)) = wholeL (n + 1) (l.take k) + wholeT l[k]:=by
 rw [List.take_succ_eq_append_getElem h];unfold wholeL wholeT;simp only [List.map_append,List.map_cons,List.map_nil,List.sum_append,List.sum_cons,List.sum_nil];omega
theorem formed_no {n:Nat} {l:List (Tm (n + 1))} {k:Nat} (h:k < l.length) (hf:formedT l[k] = false):formedL (n + 1) l = false:=by
 unfold formedL;rw [List.all_eq_false];exact ⟨l[k],List.getElem_mem h,by unfold formedT at hf;simp [hf]⟩
theorem formed_yes {n:Nat} {l:List (Tm (n + 1))} (h:∀ k,(hk:k < l.length)→formedT l[k] = true):formedL (n + 1) l = true:=by
 unfold formedL;rw [List.all_eq_true];intro x hx;obtain ⟨k,hk,rfl⟩:=List.mem_iff_getElem.1 hx;exact h k hk
theorem alike0 (p:Option Addr) (n c:Nat) (fv:Value) (w:World):Calls Tryz.prog 277 #[.slice p n c,.slice none 0 0,fv] w fun e w'=>e = .returned (.bool (decide (n = 0)))∧w = w':=by
 by_cases h:n = 0
 ·subst h;rw [decide_eq_true rfl];go_enter Tryz.func277,Tryz.ntmps277;go_wp2_with fail;refine wp_loop_rounds 1 ?_;rw [rounds_succ];go_wp2_with fail;go_ret;exact ⟨rfl,rfl⟩
 ·rw [decide_eq_false h];have hq:((n:Int) != 0) = true:=by simp;omega
  go_enter Tryz.func277,Tryz.ntmps277;go_wp2_with fail;go_ret;exact ⟨rfl,rfl⟩
theorem eq_zeroF (k i g:Int) (nm fn:ByteArray) (ar:Int) (by_:ByteArray) (bt:Int):(⟨k,i,g,nm,fn,ar,by_,bt⟩:TF) = zeroF↔(k = 0∧i = 0∧g = 0∧nm = ⟨#[]⟩∧fn = ⟨#[]⟩∧ar = 0∧by_ = ⟨#[]⟩∧bt = 0):=by
 unfold zeroF;rw [TF.mk.injEq]
theorem str_nz' {a:ByteArray} (h:a ≠ ⟨#[]⟩):¬ a.toList = []:=by
 intro e;rw [ByteArray.toList_eq] at e;exact h (ByteArray.ext (Array.ext' e))
theorem str_nz {a:ByteArray} (h:a ≠ ⟨#[]⟩):a.toList.isEmpty = false:=by
 rw [List.isEmpty_eq_false_iff];exact str_nz' h
theorem str_nz2 {a:ByteArray} (h:a ≠ ⟨#[]⟩):(a.toList == []) = false:=by
 cases hh:a.toList == [] with
 | false=>rfl
 | true=>exact absurd (eq_of_beq hh) (str_nz' h)
theorem sameZ (f:TF) (p:Option Addr) (n c:Nat) (w:World):Calls Tryz.prog 265 #[aggV f (.slice p n c),aggV zeroF (.slice none 0 0)] w fun e w'=>e = .returned (.bool (eqB f zeroF && decide (n = 0)))∧Below w.heap.size w w':=by
 obtain ⟨k,i,g,nm,fn,ar,by_,bt⟩:=f;have hno:¬ (k = 0∧i = 0∧g = 0∧nm = ⟨#[]⟩∧fn = ⟨#[]⟩∧ar = 0∧by_ = ⟨#[]⟩∧bt = 0)→eqB (⟨k,i,g,nm,fn,ar,by_,bt⟩:TF) zeroF = false:=fun h=>eqB_f (fun e=>h ((eq_zeroF _ _ _ _ _ _ _ _).1 e));have hyes:(k = 0∧i = 0∧g = 0∧nm = ⟨#[]⟩∧fn = ⟨#[]⟩∧ar = 0∧by_ = ⟨#[]⟩∧bt = 0)→eqB (⟨k,i,g,nm,fn,ar,by_,bt⟩:TF) zeroF = true:=fun h=>eqB_t ((eq_zeroF _ _ _ _ _ _ _ _).2 h);unfold aggV zeroF at *;dsimp only at *;generalize eqB (⟨k,i,g,nm,fn,ar,by_,bt⟩:TF) (⟨0,0,0,⟨#[]⟩,⟨#[]⟩,0,⟨#[]⟩,0⟩:TF) = r at *
 by_cases e:k ≠ 0
 ·have hq:(k == 0) = false:=by simp [e]
  rw [hno (by simp_all),Bool.false_and];clear hno hyes e;go_enter Tryz.func265,Tryz.ntmps265;go_wp2_with fail;go_ret;exact ⟨rfl,((Below.refl _ _).alloc (Nat.le_refl _) _).alloc (by simp) _⟩
 have e:=Classical.not_not.1 e;subst e
 by_cases e:i ≠ 0
 ·have hq:(i == 0) = false:=by simp [e]
  rw [hno (by simp_all),Bool.false_and];clear hno hyes e;go_enter Tryz.func265,Tryz.ntmps265;go_wp2_with fail;go_ret;exact ⟨rfl,((Below.refl _ _).alloc (Nat.le_refl _) _).alloc (by simp) _⟩
 have e:=Classical.not_not.1 e;subst e
 by_cases e:g ≠ 0
 ·have hq:(g == 0) = false:=by simp [e]
  rw [hno (by simp_all),Bool.false_and];clear hno hyes e;go_enter Tryz.func265,Tryz.ntmps265;go_wp2_with fail;go_ret;exact ⟨rfl,((Below.refl _ _).alloc (Nat.le_refl _) _).alloc (by simp) _⟩
 have e:=Classical.not_not.1 e;subst e
 by_cases e:nm ≠ (⟨#[]⟩:ByteArray)
 ·have hq:nm.toList.isEmpty = false:=str_nz e;have hq3:(nm.toList == []) = false:=str_nz2 e;have hq2:¬ nm.toList = []:=str_nz' e;rw [hno (by simp_all),Bool.false_and];clear hno hyes e;go_enter Tryz.func265,Tryz.ntmps265;go_wp2_with fail;go_ret;exact ⟨rfl,((Below.refl _ _).alloc (Nat.le_refl _) _).alloc (by simp) _⟩
 have e:=Classical.not_not.1 e;subst e
 by_cases e:fn ≠ (⟨#[]⟩:ByteArray)
 ·have hq:fn.toList.isEmpty = false:=str_nz e;have hq3:(fn.toList == []) = false:=str_nz2 e;have hq2:¬ fn.toList = []:=str_nz' e;rw [hno (by simp_all),Bool.false_and];clear hno hyes e;go_enter Tryz.func265,Tryz.ntmps265;go_wp2_with fail;go_ret;exact ⟨rfl,((Below.refl _ _).alloc (Nat.le_refl _) _).alloc (by simp) _⟩
 have e:=Classical.not_not.1 e;subst e
 by_cases e:ar ≠ 0
 ·have hq:(ar == 0) = false:=by simp [e]
  rw [hno (by simp_all),Bool.false_and];clear hno hyes e;go_enter Tryz.func265,Tryz.ntmps265;go_wp2_with fail;go_ret;exact ⟨rfl,((Below.refl _ _).alloc (Nat.le_refl _) _).alloc (by simp) _⟩
 have e:=Classical.not_not.1 e;subst e
 by_cases e:by_ ≠ (⟨#[]⟩:ByteArray)
 ·have hq:by_.toList.isEmpty = false:=str_nz e;have hq3:(by_.toList == []) = false:=str_nz2 e;have hq2:¬ by_.toList = []:=str_nz' e;rw [hno (by simp_all),Bool.false_and];clear hno hyes e;go_enter Tryz.func265,Tryz.ntmps265;go_wp2_with fail;go_ret;exact ⟨rfl,((Below.refl _ _).alloc (Nat.le_refl _) _).alloc (by simp) _⟩
 have e:=Classical.not_not.1 e;subst e
 by_cases e:bt ≠ 0
 ·have hq:(bt == 0) = false:=by simp [e]
  rw [hno (by simp_all),Bool.false_and];clear hno hyes e;go_enter Tryz.func265,Tryz.ntmps265;go_wp2_with fail;go_ret;exact ⟨rfl,((Below.refl _ _).alloc (Nat.le_refl _) _).alloc (by simp) _⟩
 have e:=Classical.not_not.1 e;subst e;rw [hyes ⟨rfl,rfl,rfl,rfl,rfl,rfl,rfl,rfl⟩,Bool.true_and];clear hno hyes;go_enter Tryz.func265,Tryz.ntmps265;go_wp2_with fail;refine (alike0 _ _ _ _ _).mono ?_;rintro e w' ⟨rfl,rfl⟩;go_wp2_with fail;go_ret;exact ⟨rfl,((Below.refl _ _).alloc (Nat.le_refl _) _).alloc (by simp) _⟩
end Go.Proofs.YtpnlnbolhkcnjaaGreat.tm
