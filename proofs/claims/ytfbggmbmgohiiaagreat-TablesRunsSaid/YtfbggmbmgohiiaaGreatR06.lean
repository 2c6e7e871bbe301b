/- TmF. No condition beyond theirs. -/
import Derived.Test.YtfbggmbmgohiiaaGreatR04
set_option linter.unusedSimpArgs false
set_option linter.unusedVariables false
set_option maxHeartbeats 1000000
set_option maxRecDepth 100000
namespace Go.Proofs.YtfbggmbmgohiiaaGreat.tm
open Go.RowKit mem names
theorem Ru(i g:Int)(nm fn:ByteArray)(ar:Int)(aL:ByteArray)(bt:Int)(p:Option Addr)(n c:Nat)(last:Int)(w:World)(hn:n≤c)(hc:c≤9223372036854775807):Calls Tryz.prog 141 #[aj ⟨0,i,g,nm,fn,ar,aL,bt⟩ (.slice p n c)] w (fU ⟨0,i,g,nm,fn,ar,aL,bt⟩ (.slice p n c) n last w):=by
 have hb:bG ⟨0,i,g,nm,fn,ar,aL,bt⟩=⟨0,i,g,nm,fn,ar,aL,bt⟩:=by simp[bG]
 have hv:bQ ⟨0,i,g,nm,fn,ar,aL,bt⟩ (.slice p n c)=Value.slice p n c:=by simp[bQ,aK]
 have ho:okF ⟨0,i,g,nm,fn,ar,aL,bt⟩ n last=(false):=by simp[okF]
 unfold fU;rw[hb,hv,ho];unfold aj;dsimp only;clear hb hv ho;go_enter Tryz.func141,Tryz.ntmps141;go_wp2_with fail;exact bodyPost_ret (v:=(.tuple #[.agg #[.int .i64 0,.int .i64 i,.int .i64 g,.string nm,.string fn,.int .i64 ar,Value.slice p n c,.string aL,.int .i64 bt],.bool false])) (by simp[results,Tryz.results141,go_sem, *]) rfl ⟨by simp,Qz⟩
theorem KI(i g:Int)(nm fn:ByteArray)(ar:Int)(aL:ByteArray)(bt:Int)(p:Option Addr)(n c:Nat)(last:Int)(w:World)(hn:n≤c)(hc:c≤9223372036854775807):Calls Tryz.prog 142 #[aj ⟨1,i,g,nm,fn,ar,aL,bt⟩ (.slice p n c)] w (fU ⟨1,i,g,nm,fn,ar,aL,bt⟩ (.slice p n c) n last w):=by
 have hb:bG ⟨1,i,g,nm,fn,ar,aL,bt⟩=⟨1,0,g,nm,fn,ar,aL,bt⟩:=by simp[bG]
 have hv:bQ ⟨1,i,g,nm,fn,ar,aL,bt⟩ (.slice p n c)=Value.slice p n c:=by simp[bQ,aK]
 have ho:okF ⟨1,i,g,nm,fn,ar,aL,bt⟩ n last=(true):=by simp[okF]
 unfold fU;rw[hb,hv,ho];unfold aj;dsimp only;clear hb hv ho;go_enter Tryz.func142,Tryz.ntmps142;go_wp2_with fail;exact bodyPost_ret (v:=(.tuple #[.agg #[.int .i64 1,.int .i64 0,.int .i64 g,.string nm,.string fn,.int .i64 ar,Value.slice p n c,.string aL,.int .i64 bt],.bool true])) (by simp[results,Tryz.results142,go_sem, *]) rfl ⟨by simp,Qz⟩
theorem G7(i g:Int)(nm fn:ByteArray)(ar:Int)(aL:ByteArray)(bt:Int)(p:Option Addr)(n c:Nat)(last:Int)(w:World)(hn:n≤c)(hc:c≤9223372036854775807):Calls Tryz.prog 143 #[aj ⟨2,i,g,nm,fn,ar,aL,bt⟩ (.slice p n c)] w (fU ⟨2,i,g,nm,fn,ar,aL,bt⟩ (.slice p n c) n last w):=by
 have hb:bG ⟨2,i,g,nm,fn,ar,aL,bt⟩=⟨2,i,g,⟨#[]⟩,fn,ar,aL,bt⟩:=by simp[bG]
 have hv:bQ ⟨2,i,g,nm,fn,ar,aL,bt⟩ (.slice p n c)=Value.slice p n c:=by simp[bQ,aK]
 have ho:okF ⟨2,i,g,nm,fn,ar,aL,bt⟩ n last=(b_ nm):=by simp[okF]
 unfold fU;rw[hb,hv,ho];unfold aj;dsimp only;clear hb hv ho
 by_cases h0:(b_ nm)=true
 ·have Ar:=fun W=>Valid nm W;rw[h0]at Ar;rw[h0];go_enter Tryz.func143,Tryz.ntmps143;go_wp2_with fail;refine(Ar _).mono ?_;rintro e w1 ⟨rfl,aD⟩;have hz:w.heap.size+1<w1.heap.size:=by have:=aD.size;simp at this;omega
  obtain⟨hA,hR,hb⟩:=fV (f:=⟨2,i,g,nm,fn,ar,aL,bt⟩) (v:=.slice p n c) aD;have HA:=Qh hA;have HR:=Qh hR;obtain⟨a0,a1,a2,a3,a4,a5,a6,a7,a8,az⟩:=hA;obtain⟨r0,r1,r2,r3,r4,r5,r6,r7,r8,rz⟩:=hR;clear aD;dsimp only[aY,aK]at a0 a1 a2 a3 a4 a5 a6 a7 a8 r0 r1 r2 r3 r4 r5 r6 r7 r8;go_wp2_with fail;exact bodyPost_ret (v:=(.tuple #[.agg #[.int .i64 2,.int .i64 i,.int .i64 g,.string ⟨#[]⟩,.string fn,.int .i64 ar,Value.slice p n c,.string aL,.int .i64 bt],.bool true])) (by simp[results,Tryz.results143,go_sem, *]) rfl ⟨by simp,Qz⟩
 ·have h0:(b_ nm)=false:=by simpa using h0
  have Ar:=fun W=>Valid nm W;rw[h0]at Ar;rw[h0];go_enter Tryz.func143,Tryz.ntmps143;go_wp2_with fail;refine(Ar _).mono ?_;rintro e w1 ⟨rfl,aD⟩;have hz:w.heap.size+1<w1.heap.size:=by have:=aD.size;simp at this;omega
  obtain⟨hA,hR,hb⟩:=fV (f:=⟨2,i,g,nm,fn,ar,aL,bt⟩) (v:=.slice p n c) aD;have HA:=Qh hA;have HR:=Qh hR;obtain⟨a0,a1,a2,a3,a4,a5,a6,a7,a8,az⟩:=hA;obtain⟨r0,r1,r2,r3,r4,r5,r6,r7,r8,rz⟩:=hR;clear aD;dsimp only[aY,aK]at a0 a1 a2 a3 a4 a5 a6 a7 a8 r0 r1 r2 r3 r4 r5 r6 r7 r8;go_wp2_with fail;exact bodyPost_ret (v:=(.tuple #[.agg #[.int .i64 2,.int .i64 i,.int .i64 g,.string ⟨#[]⟩,.string fn,.int .i64 ar,Value.slice p n c,.string aL,.int .i64 bt],.bool false])) (by simp[results,Tryz.results143,go_sem, *]) rfl ⟨by simp,Qz⟩
theorem KJ(i g:Int)(nm fn:ByteArray)(ar:Int)(aL:ByteArray)(bt:Int)(p:Option Addr)(n c:Nat)(last:Int)(w:World)(hn:n≤c)(hc:c≤9223372036854775807):Calls Tryz.prog 138 #[aj ⟨3,i,g,nm,fn,ar,aL,bt⟩ (.slice p n c)] w (fU ⟨3,i,g,nm,fn,ar,aL,bt⟩ (.slice p n c) n last w):=by
 have hb:bG ⟨3,i,g,nm,fn,ar,aL,bt⟩=⟨3,0,0,⟨#[]⟩,fn,ar,aL,bt⟩:=by simp[bG]
 have hv:bQ ⟨3,i,g,nm,fn,ar,aL,bt⟩ (.slice p n c)=Value.slice p n c:=by simp[bQ,aK]
 have ho:okF ⟨3,i,g,nm,fn,ar,aL,bt⟩ n last=(gq i 1 2147483647&&(gq g 1 2147483647&&(b_ nm))):=by simp[okF]
 unfold fU;rw[hb,hv,ho];unfold aj;dsimp only;clear hb hv ho
 by_cases h0:(gq i 1 2147483647)=true
 ·by_cases h1:(gq g 1 2147483647)=true
  ·by_cases h2:(b_ nm)=true
   ·have hw0:=fun W=>within i 1 2147483647 W;rw[h0]at hw0;have hw1:=fun W=>within g 1 2147483647 W;rw[h1]at hw1;have pS:=fun W=>Valid nm W;rw[h2]at pS;rw[h0,h1,h2];go_enter Tryz.func138,Tryz.ntmps138;go_wp2_with fail;refine(hw0 _).mono ?_;rintro e w' ⟨rfl,rfl⟩;go_wp2_with fail;refine(hw1 _).mono ?_;rintro e w' ⟨rfl,rfl⟩;go_wp2_with fail;refine(pS _).mono ?_;rintro e w1 ⟨rfl,aD⟩;have hz:w.heap.size+1<w1.heap.size:=by have:=aD.size;simp at this;omega
    obtain⟨hA,hR,hb⟩:=fV (f:=⟨3,i,g,nm,fn,ar,aL,bt⟩) (v:=.slice p n c) aD;have HA:=Qh hA;have HR:=Qh hR;obtain⟨a0,a1,a2,a3,a4,a5,a6,a7,a8,az⟩:=hA;obtain⟨r0,r1,r2,r3,r4,r5,r6,r7,r8,rz⟩:=hR;clear aD;dsimp only[aY,aK]at a0 a1 a2 a3 a4 a5 a6 a7 a8 r0 r1 r2 r3 r4 r5 r6 r7 r8;go_wp2_with fail;exact bodyPost_ret (v:=(.tuple #[.agg #[.int .i64 3,.int .i64 0,.int .i64 0,.string ⟨#[]⟩,.string fn,.int .i64 ar,Value.slice p n c,.string aL,.int .i64 bt],.bool true])) (by simp[results,Tryz.results138,go_sem, *]) rfl ⟨by simp,Qz⟩
   ·have h2:(b_ nm)=false:=by simpa using h2
    have hw0:=fun W=>within i 1 2147483647 W;rw[h0]at hw0;have hw1:=fun W=>within g 1 2147483647 W;rw[h1]at hw1;have pS:=fun W=>Valid nm W;rw[h2]at pS;rw[h0,h1,h2];go_enter Tryz.func138,Tryz.ntmps138;go_wp2_with fail;refine(hw0 _).mono ?_;rintro e w' ⟨rfl,rfl⟩;go_wp2_with fail;refine(hw1 _).mono ?_;rintro e w' ⟨rfl,rfl⟩;go_wp2_with fail;refine(pS _).mono ?_;rintro e w1 ⟨rfl,aD⟩;have hz:w.heap.size+1<w1.heap.size:=by have:=aD.size;simp at this;omega
    obtain⟨hA,hR,hb⟩:=fV (f:=⟨3,i,g,nm,fn,ar,aL,bt⟩) (v:=.slice p n c) aD;have HA:=Qh hA;have HR:=Qh hR;obtain⟨a0,a1,a2,a3,a4,a5,a6,a7,a8,az⟩:=hA;obtain⟨r0,r1,r2,r3,r4,r5,r6,r7,r8,rz⟩:=hR;clear aD;dsimp only[aY,aK]at a0 a1 a2 a3 a4 a5 a6 a7 a8 r0 r1 r2 r3 r4 r5 r6 r7 r8;go_wp2_with fail;exact bodyPost_ret (v:=(.tuple #[.agg #[.int .i64 3,.int .i64 0,.int .i64 0,.string ⟨#[]⟩,.string fn,.int .i64 ar,Value.slice p n c,.string aL,.int .i64 bt],.bool false])) (by simp[results,Tryz.results138,go_sem, *]) rfl ⟨by simp,Qz⟩
  ·have h1:(gq g 1 2147483647)=false:=by simpa using h1
   have hw0:=fun W=>within i 1 2147483647 W;rw[h0]at hw0;have hw1:=fun W=>within g 1 2147483647 W;rw[h1]at hw1;rw[h0,h1];go_enter Tryz.func138,Tryz.ntmps138;go_wp2_with fail;refine(hw0 _).mono ?_;rintro e w' ⟨rfl,rfl⟩;go_wp2_with fail;refine(hw1 _).mono ?_;rintro e w' ⟨rfl,rfl⟩;go_wp2_with fail;exact bodyPost_ret (v:=(.tuple #[.agg #[.int .i64 3,.int .i64 0,.int .i64 0,.string ⟨#[]⟩,.string fn,.int .i64 ar,Value.slice p n c,.string aL,.int .i64 bt],.bool false])) (by simp[results,Tryz.results138,go_sem, *]) rfl ⟨by simp,Qz⟩
 ·have h0:(gq i 1 2147483647)=false:=by simpa using h0
  have hw0:=fun W=>within i 1 2147483647 W;rw[h0]at hw0;rw[h0];go_enter Tryz.func138,Tryz.ntmps138;go_wp2_with fail;refine(hw0 _).mono ?_;rintro e w' ⟨rfl,rfl⟩;go_wp2_with fail;exact bodyPost_ret (v:=(.tuple #[.agg #[.int .i64 3,.int .i64 0,.int .i64 0,.string ⟨#[]⟩,.string fn,.int .i64 ar,Value.slice p n c,.string aL,.int .i64 bt],.bool false])) (by simp[results,Tryz.results138,go_sem, *]) rfl ⟨by simp,Qz⟩
theorem KK(i g:Int)(nm fn:ByteArray)(ar:Int)(aL:ByteArray)(bt:Int)(p:Option Addr)(n c:Nat)(last:Int)(w:World)(hn:n≤c)(hc:c≤9223372036854775807):Calls Tryz.prog 138 #[aj ⟨6,i,g,nm,fn,ar,aL,bt⟩ (.slice p n c)] w (fU ⟨6,i,g,nm,fn,ar,aL,bt⟩ (.slice p n c) n last w):=by
 have hb:bG ⟨6,i,g,nm,fn,ar,aL,bt⟩=⟨6,0,0,⟨#[]⟩,fn,ar,aL,bt⟩:=by simp[bG]
 have hv:bQ ⟨6,i,g,nm,fn,ar,aL,bt⟩ (.slice p n c)=Value.slice p n c:=by simp[bQ,aK]
 have ho:okF ⟨6,i,g,nm,fn,ar,aL,bt⟩ n last=(gq i 1 2147483647&&(gq g 1 2147483647&&(b_ nm))):=by simp[okF]
 unfold fU;rw[hb,hv,ho];unfold aj;dsimp only;clear hb hv ho
 by_cases h0:(gq i 1 2147483647)=true
 ·by_cases h1:(gq g 1 2147483647)=true
  ·by_cases h2:(b_ nm)=true
   ·have hw0:=fun W=>within i 1 2147483647 W;rw[h0]at hw0;have hw1:=fun W=>within g 1 2147483647 W;rw[h1]at hw1;have pS:=fun W=>Valid nm W;rw[h2]at pS;rw[h0,h1,h2];go_enter Tryz.func138,Tryz.ntmps138;go_wp2_with fail;refine(hw0 _).mono ?_;rintro e w' ⟨rfl,rfl⟩;go_wp2_with fail;refine(hw1 _).mono ?_;rintro e w' ⟨rfl,rfl⟩;go_wp2_with fail;refine(pS _).mono ?_;rintro e w1 ⟨rfl,aD⟩;have hz:w.heap.size+1<w1.heap.size:=by have:=aD.size;simp at this;omega
    obtain⟨hA,hR,hb⟩:=fV (f:=⟨6,i,g,nm,fn,ar,aL,bt⟩) (v:=.slice p n c) aD;have HA:=Qh hA;have HR:=Qh hR;obtain⟨a0,a1,a2,a3,a4,a5,a6,a7,a8,az⟩:=hA;obtain⟨r0,r1,r2,r3,r4,r5,r6,r7,r8,rz⟩:=hR;clear aD;dsimp only[aY,aK]at a0 a1 a2 a3 a4 a5 a6 a7 a8 r0 r1 r2 r3 r4 r5 r6 r7 r8;go_wp2_with fail;exact bodyPost_ret (v:=(.tuple #[.agg #[.int .i64 6,.int .i64 0,.int .i64 0,.string ⟨#[]⟩,.string fn,.int .i64 ar,Value.slice p n c,.string aL,.int .i64 bt],.bool true])) (by simp[results,Tryz.results138,go_sem, *]) rfl ⟨by simp,Qz⟩
   ·have h2:(b_ nm)=false:=by simpa using h2
    have hw0:=fun W=>within i 1 2147483647 W;rw[h0]at hw0;have hw1:=fun W=>within g 1 2147483647 W;rw[h1]at hw1;have pS:=fun W=>Valid nm W;rw[h2]at pS;rw[h0,h1,h2];go_enter Tryz.func138,Tryz.ntmps138;go_wp2_with fail;refine(hw0 _).mono ?_;rintro e w' ⟨rfl,rfl⟩;go_wp2_with fail;refine(hw1 _).mono ?_;rintro e w' ⟨rfl,rfl⟩;go_wp2_with fail;refine(pS _).mono ?_;rintro e w1 ⟨rfl,aD⟩;have hz:w.heap.size+1<w1.heap.size:=by have:=aD.size;simp at this;omega
    obtain⟨hA,hR,hb⟩:=fV (f:=⟨6,i,g,nm,fn,ar,aL,bt⟩) (v:=.slice p n c) aD;have HA:=Qh hA;have HR:=Qh hR;obtain⟨a0,a1,a2,a3,a4,a5,a6,a7,a8,az⟩:=hA;obtain⟨r0,r1,r2,r3,r4,r5,r6,r7,r8,rz⟩:=hR;clear aD;dsimp only[aY,aK]at a0 a1 a2 a3 a4 a5 a6 a7 a8 r0 r1 r2 r3 r4 r5 r6 r7 r8;go_wp2_with fail;exact bodyPost_ret (v:=(.tuple #[.agg #[.int .i64 6,.int .i64 0,.int .i64 0,.string ⟨#[]⟩,.string fn,.int .i64 ar,Value.slice p n c,.string aL,.int .i64 bt],.bool false])) (by simp[results,Tryz.results138,go_sem, *]) rfl ⟨by simp,Qz⟩
  ·have h1:(gq g 1 2147483647)=false:=by simpa using h1
   have hw0:=fun W=>within i 1 2147483647 W;rw[h0]at hw0;have hw1:=fun W=>within g 1 2147483647 W;rw[h1]at hw1;rw[h0,h1];go_enter Tryz.func138,Tryz.ntmps138;go_wp2_with fail;refine(hw0 _).mono ?_;rintro e w' ⟨rfl,rfl⟩;go_wp2_with fail;refine(hw1 _).mono ?_;rintro e w' ⟨rfl,rfl⟩;go_wp2_with fail;exact bodyPost_ret (v:=(.tuple #[.agg #[.int .i64 6,.int .i64 0,.int .i64 0,.string ⟨#[]⟩,.string fn,.int .i64 ar,Value.slice p n c,.string aL,.int .i64 bt],.bool false])) (by simp[results,Tryz.results138,go_sem, *]) rfl ⟨by simp,Qz⟩
 ·have h0:(gq i 1 2147483647)=false:=by simpa using h0
  have hw0:=fun W=>within i 1 2147483647 W;rw[h0]at hw0;rw[h0];go_enter Tryz.func138,Tryz.ntmps138;go_wp2_with fail;refine(hw0 _).mono ?_;rintro e w' ⟨rfl,rfl⟩;go_wp2_with fail;exact bodyPost_ret (v:=(.tuple #[.agg #[.int .i64 6,.int .i64 0,.int .i64 0,.string ⟨#[]⟩,.string fn,.int .i64 ar,Value.slice p n c,.string aL,.int .i64 bt],.bool false])) (by simp[results,Tryz.results138,go_sem, *]) rfl ⟨by simp,Qz⟩
theorem Au(i g:Int)(nm fn:ByteArray)(ar:Int)(aL:ByteArray)(bt:Int)(p:Option Addr)(n c:Nat)(last:Int)(w:World)(hn:n≤c)(hc:c≤9223372036854775807):Calls Tryz.prog 144 #[aj ⟨4,i,g,nm,fn,ar,aL,bt⟩ (.slice p n c)] w (fU ⟨4,i,g,nm,fn,ar,aL,bt⟩ (.slice p n c) n last w):=by
 have hb:bG ⟨4,i,g,nm,fn,ar,aL,bt⟩=⟨4,0,0,⟨#[]⟩,fn,0,aL,bt⟩:=by simp[bG]
 have hv:bQ ⟨4,i,g,nm,fn,ar,aL,bt⟩ (.slice p n c)=Value.slice none 0 0:=by simp[bQ,aK]
 have ho:okF ⟨4,i,g,nm,fn,ar,aL,bt⟩ n last=(gq i 0 999&&(gq g 1 2147483647&&(b_ nm&&(gq ar 0 16&&(decide (n≤200)))))):=by simp[okF]
 unfold fU;rw[hb,hv,ho];unfold aj;dsimp only;clear hb hv ho
 by_cases h0:(gq i 0 999)=true
 ·by_cases h1:(gq g 1 2147483647)=true
  ·by_cases h2:(b_ nm)=true
   ·by_cases h3:(gq ar 0 16)=true
    ·by_cases h4:(decide (n≤200))=true
     ·have hw0:=fun W=>within i 0 999 W;rw[h0]at hw0;have hw1:=fun W=>within g 1 2147483647 W;rw[h1]at hw1;have pS:=fun W=>Valid nm W;rw[h2]at pS;have CS:=fun W=>within ar 0 16 W;rw[h3]at CS;have q4:(n:Int)≤200:=by have:=of_decide_eq_true h4;omega
      rw[h0,h1,h2,h3,h4];go_enter Tryz.func144,Tryz.ntmps144;go_wp2_with fail;refine(hw0 _).mono ?_;rintro e w' ⟨rfl,rfl⟩;go_wp2_with fail;refine(hw1 _).mono ?_;rintro e w' ⟨rfl,rfl⟩;go_wp2_with fail;refine(pS _).mono ?_;rintro e w1 ⟨rfl,aD⟩;have hz:w.heap.size+1<w1.heap.size:=by have:=aD.size;simp at this;omega
      obtain⟨hA,hR,hb⟩:=fV (f:=⟨4,i,g,nm,fn,ar,aL,bt⟩) (v:=.slice p n c) aD;have HA:=Qh hA;have HR:=Qh hR;obtain⟨a0,a1,a2,a3,a4,a5,a6,a7,a8,az⟩:=hA;obtain⟨r0,r1,r2,r3,r4,r5,r6,r7,r8,rz⟩:=hR;clear aD;dsimp only[aY,aK]at a0 a1 a2 a3 a4 a5 a6 a7 a8 r0 r1 r2 r3 r4 r5 r6 r7 r8;go_wp2_with fail;refine(CS _).mono ?_;rintro e w' ⟨rfl,rfl⟩;go_wp2_with fail
      exact bodyPost_ret (v:=(.tuple #[.agg #[.int .i64 4,.int .i64 0,.int .i64 0,.string ⟨#[]⟩,.string fn,.int .i64 0,Value.slice none 0 0,.string aL,.int .i64 bt],.bool true])) (by simp[results,Tryz.results144,go_sem, *]) rfl ⟨by simp,Qz⟩
     ·have h4:(decide (n≤200))=false:=by simpa using h4
      have hw0:=fun W=>within i 0 999 W;rw[h0]at hw0;have hw1:=fun W=>within g 1 2147483647 W;rw[h1]at hw1;have pS:=fun W=>Valid nm W;rw[h2]at pS;have CS:=fun W=>within ar 0 16 W;rw[h3]at CS;have q4:(200:Int)<(n:Int):=by have:=of_decide_eq_false h4;omega
      rw[h0,h1,h2,h3,h4];go_enter Tryz.func144,Tryz.ntmps144;go_wp2_with fail;refine(hw0 _).mono ?_;rintro e w' ⟨rfl,rfl⟩;go_wp2_with fail;refine(hw1 _).mono ?_;rintro e w' ⟨rfl,rfl⟩;go_wp2_with fail;refine(pS _).mono ?_;rintro e w1 ⟨rfl,aD⟩;have hz:w.heap.size+1<w1.heap.size:=by have:=aD.size;simp at this;omega
      obtain⟨hA,hR,hb⟩:=fV (f:=⟨4,i,g,nm,fn,ar,aL,bt⟩) (v:=.slice p n c) aD;have HA:=Qh hA;have HR:=Qh hR;obtain⟨a0,a1,a2,a3,a4,a5,a6,a7,a8,az⟩:=hA;obtain⟨r0,r1,r2,r3,r4,r5,r6,r7,r8,rz⟩:=hR;clear aD;dsimp only[aY,aK]at a0 a1 a2 a3 a4 a5 a6 a7 a8 r0 r1 r2 r3 r4 r5 r6 r7 r8;go_wp2_with fail;refine(CS _).mono ?_;rintro e w' ⟨rfl,rfl⟩;go_wp2_with fail
      exact bodyPost_ret (v:=(.tuple #[.agg #[.int .i64 4,.int .i64 0,.int .i64 0,.string ⟨#[]⟩,.string fn,.int .i64 0,Value.slice none 0 0,.string aL,.int .i64 bt],.bool false])) (by simp[results,Tryz.results144,go_sem, *]) rfl ⟨by simp,Qz⟩
    ·have h3:(gq ar 0 16)=false:=by simpa using h3
     have hw0:=fun W=>within i 0 999 W;rw[h0]at hw0;have hw1:=fun W=>within g 1 2147483647 W;rw[h1]at hw1;have pS:=fun W=>Valid nm W;rw[h2]at pS;have CS:=fun W=>within ar 0 16 W;rw[h3]at CS;rw[h0,h1,h2,h3];go_enter Tryz.func144,Tryz.ntmps144;go_wp2_with fail;refine(hw0 _).mono ?_;rintro e w' ⟨rfl,rfl⟩;go_wp2_with fail;refine(hw1 _).mono ?_;rintro e w' ⟨rfl,rfl⟩;go_wp2_with fail;refine(pS _).mono ?_;rintro e w1 ⟨rfl,aD⟩;have hz:w.heap.size+1<w1.heap.size:=by have:=aD.size;simp at this;omega
     obtain⟨hA,hR,hb⟩:=fV (f:=⟨4,i,g,nm,fn,ar,aL,bt⟩) (v:=.slice p n c) aD;have HA:=Qh hA;have HR:=Qh hR;obtain⟨a0,a1,a2,a3,a4,a5,a6,a7,a8,az⟩:=hA;obtain⟨r0,r1,r2,r3,r4,r5,r6,r7,r8,rz⟩:=hR;clear aD;dsimp only[aY,aK]at a0 a1 a2 a3 a4 a5 a6 a7 a8 r0 r1 r2 r3 r4 r5 r6 r7 r8;go_wp2_with fail;refine(CS _).mono ?_;rintro e w' ⟨rfl,rfl⟩;go_wp2_with fail
     exact bodyPost_ret (v:=(.tuple #[.agg #[.int .i64 4,.int .i64 0,.int .i64 0,.string ⟨#[]⟩,.string fn,.int .i64 0,Value.slice none 0 0,.string aL,.int .i64 bt],.bool false])) (by simp[results,Tryz.results144,go_sem, *]) rfl ⟨by simp,Qz⟩
   ·have h2:(b_ nm)=false:=by simpa using h2
    have hw0:=fun W=>within i 0 999 W;rw[h0]at hw0;have hw1:=fun W=>within g 1 2147483647 W;rw[h1]at hw1;have pS:=fun W=>Valid nm W;rw[h2]at pS;rw[h0,h1,h2];go_enter Tryz.func144,Tryz.ntmps144;go_wp2_with fail;refine(hw0 _).mono ?_;rintro e w' ⟨rfl,rfl⟩;go_wp2_with fail;refine(hw1 _).mono ?_;rintro e w' ⟨rfl,rfl⟩;go_wp2_with fail;refine(pS _).mono ?_;rintro e w1 ⟨rfl,aD⟩;have hz:w.heap.size+1<w1.heap.size:=by have:=aD.size;simp at this;omega
    obtain⟨hA,hR,hb⟩:=fV (f:=⟨4,i,g,nm,fn,ar,aL,bt⟩) (v:=.slice p n c) aD;have HA:=Qh hA;have HR:=Qh hR;obtain⟨a0,a1,a2,a3,a4,a5,a6,a7,a8,az⟩:=hA;obtain⟨r0,r1,r2,r3,r4,r5,r6,r7,r8,rz⟩:=hR;clear aD;dsimp only[aY,aK]at a0 a1 a2 a3 a4 a5 a6 a7 a8 r0 r1 r2 r3 r4 r5 r6 r7 r8;go_wp2_with fail;exact bodyPost_ret (v:=(.tuple #[.agg #[.int .i64 4,.int .i64 0,.int .i64 0,.string ⟨#[]⟩,.string fn,.int .i64 0,Value.slice none 0 0,.string aL,.int .i64 bt],.bool false])) (by simp[results,Tryz.results144,go_sem, *]) rfl ⟨by simp,Qz⟩
  ·have h1:(gq g 1 2147483647)=false:=by simpa using h1
   have hw0:=fun W=>within i 0 999 W;rw[h0]at hw0;have hw1:=fun W=>within g 1 2147483647 W;rw[h1]at hw1;rw[h0,h1];go_enter Tryz.func144,Tryz.ntmps144;go_wp2_with fail;refine(hw0 _).mono ?_;rintro e w' ⟨rfl,rfl⟩;go_wp2_with fail;refine(hw1 _).mono ?_;rintro e w' ⟨rfl,rfl⟩;go_wp2_with fail;exact bodyPost_ret (v:=(.tuple #[.agg #[.int .i64 4,.int .i64 0,.int .i64 0,.string ⟨#[]⟩,.string fn,.int .i64 0,Value.slice none 0 0,.string aL,.int .i64 bt],.bool false])) (by simp[results,Tryz.results144,go_sem, *]) rfl ⟨by simp,Qz⟩
 ·have h0:(gq i 0 999)=false:=by simpa using h0
  have hw0:=fun W=>within i 0 999 W;rw[h0]at hw0;rw[h0];go_enter Tryz.func144,Tryz.ntmps144;go_wp2_with fail;refine(hw0 _).mono ?_;rintro e w' ⟨rfl,rfl⟩;go_wp2_with fail;exact bodyPost_ret (v:=(.tuple #[.agg #[.int .i64 4,.int .i64 0,.int .i64 0,.string ⟨#[]⟩,.string fn,.int .i64 0,Value.slice none 0 0,.string aL,.int .i64 bt],.bool false])) (by simp[results,Tryz.results144,go_sem, *]) rfl ⟨by simp,Qz⟩
theorem CT(i g:Int)(nm fn:ByteArray)(ar:Int)(aL:ByteArray)(bt:Int)(p:Option Addr)(n c:Nat)(last:Int)(w:World)(hn:n≤c)(hc:c≤9223372036854775807):Calls Tryz.prog 145 #[aj ⟨5,i,g,nm,fn,ar,aL,bt⟩ (.slice p n c)] w (fU ⟨5,i,g,nm,fn,ar,aL,bt⟩ (.slice p n c) n last w):=by
 have hb:bG ⟨5,i,g,nm,fn,ar,aL,bt⟩=⟨5,i,g,⟨#[]⟩,⟨#[]⟩,0,aL,bt⟩:=by simp[bG]
 have hv:bQ ⟨5,i,g,nm,fn,ar,aL,bt⟩ (.slice p n c)=Value.slice p n c:=by simp[bQ,aK]
 have ho:okF ⟨5,i,g,nm,fn,ar,aL,bt⟩ n last=(b_ nm&&(b_ fn&&(gq ar 0 16))):=by simp[okF]
 unfold fU;rw[hb,hv,ho];unfold aj;dsimp only;clear hb hv ho
 by_cases h0:(b_ nm)=true
 ·by_cases h1:(b_ fn)=true
  ·by_cases h2:(gq ar 0 16)=true
   ·have Ar:=fun W=>Valid nm W;rw[h0]at Ar;have wJ:=fun W=>Valid fn W;rw[h1]at wJ;have td:=fun W=>within ar 0 16 W;rw[h2]at td;rw[h0,h1,h2];go_enter Tryz.func145,Tryz.ntmps145;go_wp2_with fail;refine(Ar _).mono ?_;rintro e w1 ⟨rfl,aD⟩;have hz:w.heap.size+1<w1.heap.size:=by have:=aD.size;simp at this;omega
    obtain⟨hA,hR,hb⟩:=fV (f:=⟨5,i,g,nm,fn,ar,aL,bt⟩) (v:=.slice p n c) aD;have HA:=Qh hA;have HR:=Qh hR;obtain⟨a0,a1,a2,a3,a4,a5,a6,a7,a8,az⟩:=hA;obtain⟨r0,r1,r2,r3,r4,r5,r6,r7,r8,rz⟩:=hR;clear aD;dsimp only[aY,aK]at a0 a1 a2 a3 a4 a5 a6 a7 a8 r0 r1 r2 r3 r4 r5 r6 r7 r8;go_wp2_with fail;refine(wJ _).mono ?_;rintro e w2 ⟨rfl,a_⟩;have hA:=HA.out.below a_ (by omega);have hR:=HR.out.below a_ (by omega);have hz:w.heap.size+1<w2.heap.size:=by have:=a_.size;omega
    have hb:=hb.trans (a_.mono (by omega));clear a_ a0 a1 a2 a3 a4 a5 a6 a7 a8 az r0 r1 r2 r3 r4 r5 r6 r7 r8 rz;have HA:=Qh hA;have HR:=Qh hR;obtain⟨a0,a1,a2,a3,a4,a5,a6,a7,a8,az⟩:=hA;obtain⟨r0,r1,r2,r3,r4,r5,r6,r7,r8,rz⟩:=hR;dsimp only[aY,aK]at a0 a1 a2 a3 a4 a5 a6 a7 a8 r0 r1 r2 r3 r4 r5 r6 r7 r8;go_wp2_with fail;refine(td _).mono ?_;rintro e w' ⟨rfl,rfl⟩;go_wp2_with fail
    exact bodyPost_ret (v:=(.tuple #[.agg #[.int .i64 5,.int .i64 i,.int .i64 g,.string ⟨#[]⟩,.string ⟨#[]⟩,.int .i64 0,Value.slice p n c,.string aL,.int .i64 bt],.bool true])) (by simp[results,Tryz.results145,go_sem, *]) rfl ⟨by simp,Qz⟩
   ·have h2:(gq ar 0 16)=false:=by simpa using h2
    have Ar:=fun W=>Valid nm W;rw[h0]at Ar;have wJ:=fun W=>Valid fn W;rw[h1]at wJ;have td:=fun W=>within ar 0 16 W;rw[h2]at td;rw[h0,h1,h2];go_enter Tryz.func145,Tryz.ntmps145;go_wp2_with fail;refine(Ar _).mono ?_;rintro e w1 ⟨rfl,aD⟩;have hz:w.heap.size+1<w1.heap.size:=by have:=aD.size;simp at this;omega
    obtain⟨hA,hR,hb⟩:=fV (f:=⟨5,i,g,nm,fn,ar,aL,bt⟩) (v:=.slice p n c) aD;have HA:=Qh hA;have HR:=Qh hR;obtain⟨a0,a1,a2,a3,a4,a5,a6,a7,a8,az⟩:=hA;obtain⟨r0,r1,r2,r3,r4,r5,r6,r7,r8,rz⟩:=hR;clear aD;dsimp only[aY,aK]at a0 a1 a2 a3 a4 a5 a6 a7 a8 r0 r1 r2 r3 r4 r5 r6 r7 r8;go_wp2_with fail;refine(wJ _).mono ?_;rintro e w2 ⟨rfl,a_⟩;have hA:=HA.out.below a_ (by omega);have hR:=HR.out.below a_ (by omega);have hz:w.heap.size+1<w2.heap.size:=by have:=a_.size;omega
    have hb:=hb.trans (a_.mono (by omega));clear a_ a0 a1 a2 a3 a4 a5 a6 a7 a8 az r0 r1 r2 r3 r4 r5 r6 r7 r8 rz;have HA:=Qh hA;have HR:=Qh hR;obtain⟨a0,a1,a2,a3,a4,a5,a6,a7,a8,az⟩:=hA;obtain⟨r0,r1,r2,r3,r4,r5,r6,r7,r8,rz⟩:=hR;dsimp only[aY,aK]at a0 a1 a2 a3 a4 a5 a6 a7 a8 r0 r1 r2 r3 r4 r5 r6 r7 r8;go_wp2_with fail;refine(td _).mono ?_;rintro e w' ⟨rfl,rfl⟩;go_wp2_with fail
    exact bodyPost_ret (v:=(.tuple #[.agg #[.int .i64 5,.int .i64 i,.int .i64 g,.string ⟨#[]⟩,.string ⟨#[]⟩,.int .i64 0,Value.slice p n c,.string aL,.int .i64 bt],.bool false])) (by simp[results,Tryz.results145,go_sem, *]) rfl ⟨by simp,Qz⟩
  ·have h1:(b_ fn)=false:=by simpa using h1
   have Ar:=fun W=>Valid nm W;rw[h0]at Ar;have wJ:=fun W=>Valid fn W;rw[h1]at wJ;rw[h0,h1];go_enter Tryz.func145,Tryz.ntmps145;go_wp2_with fail;refine(Ar _).mono ?_;rintro e w1 ⟨rfl,aD⟩;have hz:w.heap.size+1<w1.heap.size:=by have:=aD.size;simp at this;omega
   obtain⟨hA,hR,hb⟩:=fV (f:=⟨5,i,g,nm,fn,ar,aL,bt⟩) (v:=.slice p n c) aD;have HA:=Qh hA;have HR:=Qh hR;obtain⟨a0,a1,a2,a3,a4,a5,a6,a7,a8,az⟩:=hA;obtain⟨r0,r1,r2,r3,r4,r5,r6,r7,r8,rz⟩:=hR;clear aD;dsimp only[aY,aK]at a0 a1 a2 a3 a4 a5 a6 a7 a8 r0 r1 r2 r3 r4 r5 r6 r7 r8;go_wp2_with fail;refine(wJ _).mono ?_;rintro e w2 ⟨rfl,a_⟩;have hA:=HA.out.below a_ (by omega);have hR:=HR.out.below a_ (by omega);have hz:w.heap.size+1<w2.heap.size:=by have:=a_.size;omega
   have hb:=hb.trans (a_.mono (by omega));clear a_ a0 a1 a2 a3 a4 a5 a6 a7 a8 az r0 r1 r2 r3 r4 r5 r6 r7 r8 rz;have HA:=Qh hA;have HR:=Qh hR;obtain⟨a0,a1,a2,a3,a4,a5,a6,a7,a8,az⟩:=hA;obtain⟨r0,r1,r2,r3,r4,r5,r6,r7,r8,rz⟩:=hR;dsimp only[aY,aK]at a0 a1 a2 a3 a4 a5 a6 a7 a8 r0 r1 r2 r3 r4 r5 r6 r7 r8;go_wp2_with fail;exact bodyPost_ret (v:=(.tuple #[.agg #[.int .i64 5,.int .i64 i,.int .i64 g,.string ⟨#[]⟩,.string ⟨#[]⟩,.int .i64 0,Value.slice p n c,.string aL,.int .i64 bt],.bool false])) (by simp[results,Tryz.results145,go_sem, *]) rfl ⟨by simp,Qz⟩
 ·have h0:(b_ nm)=false:=by simpa using h0
  have Ar:=fun W=>Valid nm W;rw[h0]at Ar;rw[h0];go_enter Tryz.func145,Tryz.ntmps145;go_wp2_with fail;refine(Ar _).mono ?_;rintro e w1 ⟨rfl,aD⟩;have hz:w.heap.size+1<w1.heap.size:=by have:=aD.size;simp at this;omega
  obtain⟨hA,hR,hb⟩:=fV (f:=⟨5,i,g,nm,fn,ar,aL,bt⟩) (v:=.slice p n c) aD;have HA:=Qh hA;have HR:=Qh hR;obtain⟨a0,a1,a2,a3,a4,a5,a6,a7,a8,az⟩:=hA;obtain⟨r0,r1,r2,r3,r4,r5,r6,r7,r8,rz⟩:=hR;clear aD;dsimp only[aY,aK]at a0 a1 a2 a3 a4 a5 a6 a7 a8 r0 r1 r2 r3 r4 r5 r6 r7 r8;go_wp2_with fail;exact bodyPost_ret (v:=(.tuple #[.agg #[.int .i64 5,.int .i64 i,.int .i64 g,.string ⟨#[]⟩,.string ⟨#[]⟩,.int .i64 0,Value.slice p n c,.string aL,.int .i64 bt],.bool false])) (by simp[results,Tryz.results145,go_sem, *]) rfl ⟨by simp,Qz⟩
theorem FD(i g:Int)(nm fn:ByteArray)(ar:Int)(aL:ByteArray)(bt:Int)(p:Option Addr)(n c:Nat)(last:Int)(w:World)(hn:n≤c)(hc:c≤9223372036854775807):Calls Tryz.prog 146 #[aj ⟨7,i,g,nm,fn,ar,aL,bt⟩ (.slice p n c)] w (fU ⟨7,i,g,nm,fn,ar,aL,bt⟩ (.slice p n c) n last w):=by
 have hb:bG ⟨7,i,g,nm,fn,ar,aL,bt⟩=⟨7,i,g,nm,fn,ar,aL,bt⟩:=by simp[bG]
 have hv:bQ ⟨7,i,g,nm,fn,ar,aL,bt⟩ (.slice p n c)=Value.slice none 0 0:=by simp[bQ,aK]
 have ho:okF ⟨7,i,g,nm,fn,ar,aL,bt⟩ n last=(decide (n≤255)):=by simp[okF]
 unfold fU;rw[hb,hv,ho];unfold aj;dsimp only;clear hb hv ho
 by_cases h0:(decide (n≤255))=true
 ·have q0:(n:Int)≤255:=by have:=of_decide_eq_true h0;omega
  rw[h0];go_enter Tryz.func146,Tryz.ntmps146;go_wp2_with fail;exact bodyPost_ret (v:=(.tuple #[.agg #[.int .i64 7,.int .i64 i,.int .i64 g,.string nm,.string fn,.int .i64 ar,Value.slice none 0 0,.string aL,.int .i64 bt],.bool true])) (by simp[results,Tryz.results146,go_sem, *]) rfl ⟨by simp,Qz⟩
 ·have h0:(decide (n≤255))=false:=by simpa using h0
  have q0:(255:Int)<(n:Int):=by have:=of_decide_eq_false h0;omega
  rw[h0];go_enter Tryz.func146,Tryz.ntmps146;go_wp2_with fail;exact bodyPost_ret (v:=(.tuple #[.agg #[.int .i64 7,.int .i64 i,.int .i64 g,.string nm,.string fn,.int .i64 ar,Value.slice none 0 0,.string aL,.int .i64 bt],.bool false])) (by simp[results,Tryz.results146,go_sem, *]) rfl ⟨by simp,Qz⟩
theorem KL(i g:Int)(nm fn:ByteArray)(ar:Int)(aL:ByteArray)(bt:Int)(p:Option Addr)(n c:Nat)(last:Int)(w:World)(hn:n≤c)(hc:c≤9223372036854775807):Calls Tryz.prog 147 #[aj ⟨8,i,g,nm,fn,ar,aL,bt⟩ (.slice p n c)] w (fU ⟨8,i,g,nm,fn,ar,aL,bt⟩ (.slice p n c) n last w):=by
 have hb:bG ⟨8,i,g,nm,fn,ar,aL,bt⟩=⟨8,i,g,nm,fn,ar,aL,bt⟩:=by simp[bG]
 have hv:bQ ⟨8,i,g,nm,fn,ar,aL,bt⟩ (.slice p n c)=Value.slice p n c:=by simp[bQ,aK]
 have ho:okF ⟨8,i,g,nm,fn,ar,aL,bt⟩ n last=(true):=by simp[okF]
 unfold fU;rw[hb,hv,ho];unfold aj;dsimp only;clear hb hv ho;go_enter Tryz.func147,Tryz.ntmps147;go_wp2_with fail;exact bodyPost_ret (v:=(.tuple #[.agg #[.int .i64 8,.int .i64 i,.int .i64 g,.string nm,.string fn,.int .i64 ar,Value.slice p n c,.string aL,.int .i64 bt],.bool true])) (by simp[results,Tryz.results147,go_sem, *]) rfl ⟨by simp,Qz⟩
end Go.Proofs.YtfbggmbmgohiiaaGreat.tm
