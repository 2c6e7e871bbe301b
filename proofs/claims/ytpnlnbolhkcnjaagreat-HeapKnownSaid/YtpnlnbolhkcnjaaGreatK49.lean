/- CqC,CqD. No condition beyond theirs. -/
import Derived.Test.YtpnlnbolhkcnjaaGreatK43
set_option linter.unusedSimpArgs false
set_option linter.unusedVariables false
set_option maxHeartbeats 4000000
set_option maxRecDepth 100000
namespace Go.Proofs.YtpnlnbolhkcnjaaGreat
namespace cl
open words
def ptrF (b:Bool) (l:List Int) (i:Nat):Int:=ptrW (if l.getD i 0 % 4 = 0 then 2 else 1) b i
def ptrU (b:Bool) (l:List Int) (f:List Bool) (n:Nat):List Int:=((List.range n).filter (fun i=>f.getD i false)).map (ptrF b l)
theorem ptrU_yes {b:Bool} {l:List Int} {f:List Bool} {n:Nat} (h:f.getD n false = true):ptrU b l f (n + 1) = ptrU b l f n ++ [ptrF b l n]:=by
 unfold ptrU;rw [List.range_succ,List.filter_append,List.map_append,List.filter_cons,if_pos h,List.filter_nil,List.map_cons,List.map_nil]
theorem ptrU_no {b:Bool} {l:List Int} {f:List Bool} {n:Nat} (h:f.getD n false = false):ptrU b l f (n + 1) = ptrU b l f n:=by
 unfold ptrU;rw [List.range_succ,List.filter_append,List.map_append,List.filter_cons,if_neg (by rw [h];decide),List.filter_nil,List.map_nil,List.append_nil]
theorem ptrU_pre {b:Bool} {l:List Int} {f:List Bool} {n:Nat}:∀ k,∃ r,ptrU b l f (n + k) = ptrU b l f n ++ r:=by
 intro k
 induction k with
 | zero=>exact ⟨[],by simp⟩
 | succ k ih =>
  obtain ⟨r,hr⟩:=ih
  cases h:f.getD (n + k) false
  ·exact ⟨r,by rw [← Nat.add_assoc,ptrU_no h,hr]⟩
  ·exact ⟨r ++ [ptrF b l (n + k)],by rw [← Nat.add_assoc,ptrU_yes h,hr,List.append_assoc]⟩
theorem ptrU_get {b:Bool} {l:List Int} {f:List Bool} {n N:Nat} (h:f.getD n false = true) (hN:n < N):(ptrU b l f n).length < (ptrU b l f N).length∧(ptrU b l f N)[(ptrU b l f n).length]? = some (ptrF b l n):=by
 obtain ⟨k,rfl⟩:∃ k,N = n + 1 + k:=⟨N - (n + 1),by omega⟩;obtain ⟨r,hr⟩:=ptrU_pre (b:=b) (l:=l) (f:=f) (n:=n + 1) k;rw [hr,ptrU_yes h]
 constructor
 ·simp
 ·rw [List.append_assoc,List.getElem?_append_right (Nat.le_refl _),Nat.sub_self];rfl
def ptrs (m:Mm) (K:Bk):List Int:=ptrU false m.y (marks K.y) m.y.length ++ ptrU true m.o (marks K.o) m.o.length
theorem ptrF_pt {m:Mm} {K:Bk} (hy:Objs m.y K.y) (ho:Objs m.o K.o) (ly:m.y.length ≤ 100000) (lo:m.o.length ≤ 100000) {b:Bool} {i:Nat} {x:List Int} (hx:At (K.s b) i x) :
 Pt K (ptrF b (m.s b) i) x∧pOld (ptrF b (m.s b) i) = b∧pIx (ptrF b (m.s b) i) = i∧0 ≤ ptrF b (m.s b) i∧ptrF b (m.s b) i ≤ 18446744073709551615:=by
 have hO:Objs (m.s b) (K.s b):=by cases b <;> assumption
 have hl:(m.s b).length ≤ 100000:=by cases b <;> assumption
 have hb:=hx.bound;have hp:=hO.pos x hx.mem;rw [hO.1] at hb;have hd:(m.s b).getD i 0 = x.headD 0:=by
  have h0:=hx.get 0 hp;rw [hO.1,Nat.add_zero,headD_get hp] at h0;rw [List.getD_eq_getElem?_getD,h0];rfl
 obtain ⟨h0,h1,h2,h3,h4⟩:=ptrW_val (t:=if (m.s b).getD i 0 % 4 = 0 then 2 else 1) (by split <;> simp) b (n:=i) (by omega);have he:ptrF b (m.s b) i = ptrW (if (m.s b).getD i 0 % 4 = 0 then 2 else 1) b i:=rfl;rw [← he] at h0 h1 h2 h3 h4;rw [hd] at h4;clear he;generalize ptrF b (m.s b) i = p at *;have hr:=(pOk_iff p).1 h1
 refine ⟨⟨h1,by rw [h2,h3];exact hx,?_⟩,h2,?_,h0,?_⟩
 ·by_cases h:x.headD 0 % 4 = 0
  ·rw [if_pos h] at h4;exact ⟨fun _=>h4,fun _=>h⟩
  ·rw [if_neg h] at h4;exact ⟨fun h'=>absurd h' h,fun h'=>by omega⟩
 ·rw [pIx_eq h1] at h3 ⊢;omega
 ·omega
theorem ptrU_mem {b:Bool} {l:List Int} {f:List Bool} {n:Nat} {p:Int}:p ∈ ptrU b l f n↔∃ i,i < n∧f.getD i false = true∧p = ptrF b l i:=by
 unfold ptrU;rw [List.mem_map]
 constructor
 ·rintro ⟨i,hi,rfl⟩;rw [List.mem_filter,List.mem_range] at hi;exact ⟨i,hi.1,hi.2,rfl⟩
 ·rintro ⟨i,h1,h2,hp⟩;rw [hp];exact ⟨i,by rw [List.mem_filter,List.mem_range];exact ⟨h1,h2⟩,rfl⟩
theorem marks_at {l:List Int} {a:List (List Int)} (h:Objs l a) {i:Nat}:(i < l.length∧(marks a).getD i false = true)↔∃ x,At a i x:=by
 have hml:(marks a).length = l.length:=by rw [marks_len h.pos,h.1]
 constructor
 ·rintro ⟨h1,h2⟩;exact (marks_getD h.pos (by omega)).1 h2
 ·rintro ⟨x,hx⟩;have hb:=hx.bound;have hp:=h.pos x hx.mem;rw [h.1] at hb;exact ⟨by omega,(marks_getD h.pos (by omega)).2 ⟨x,hx⟩⟩
theorem ptrs_mem {m:Mm} {K:Bk} (hy:Objs m.y K.y) (ho:Objs m.o K.o) {p:Int}:p ∈ ptrs m K↔∃ b i x,At (K.s b) i x∧p = ptrF b (m.s b) i:=by
 unfold ptrs;rw [List.mem_append,ptrU_mem,ptrU_mem]
 constructor
 ·rintro (⟨i,h1,h2,hp⟩ | ⟨i,h1,h2,hp⟩)
  ·obtain ⟨x,hx⟩:=(marks_at hy).1 ⟨h1,h2⟩;exact ⟨false,i,x,hx,hp⟩
  ·obtain ⟨x,hx⟩:=(marks_at ho).1 ⟨h1,h2⟩;exact ⟨true,i,x,hx,hp⟩
 ·rintro ⟨b,i,x,hx,hp⟩;rw [hp];clear hp
  cases b
  ·obtain ⟨h1,h2⟩:=(marks_at hy).2 ⟨x,hx⟩;exact .inl ⟨i,h1,h2,rfl⟩
  ·obtain ⟨h1,h2⟩:=(marks_at ho).2 ⟨x,hx⟩;exact .inr ⟨i,h1,h2,rfl⟩
def ptrO (m:Mm) (K:Bk) (b:Bool):Nat:=if b then (ptrU false m.y (marks K.y) m.y.length).length else 0
theorem ptrs_get {m:Mm} {K:Bk} {b:Bool} {i:Nat} (h:(marks (K.s b)).getD i false = true) (hi:i < (m.s b).length) :
 ptrO m K b + (ptrU b (m.s b) (marks (K.s b)) i).length < (ptrs m K).length∧(ptrs m K)[ptrO m K b + (ptrU b (m.s b) (marks (K.s b)) i).length]?.getD 0 = ptrF b (m.s b) i:=by
 obtain ⟨h1,h2⟩:=ptrU_get (b:=b) (l:=m.s b) h hi;unfold ptrs ptrO
 cases b
 ·have h1:(ptrU false m.y (marks K.y) i).length < (ptrU false m.y (marks K.y) m.y.length).length:=h1;have h2:(ptrU false m.y (marks K.y) m.y.length)[(ptrU false m.y (marks K.y) i).length]? = some (ptrF false m.y i):=h2
  constructor
  ·show 0 + (ptrU false m.y (marks K.y) i).length < _;rw [List.length_append];omega
  ·show (_ ++ _)[0 + (ptrU false m.y (marks K.y) i).length]?.getD 0 = ptrF false m.y i;rw [Nat.zero_add,List.getElem?_append_left h1,h2,Option.getD_some]
 ·have h1:(ptrU true m.o (marks K.o) i).length < (ptrU true m.o (marks K.o) m.o.length).length:=h1;have h2:(ptrU true m.o (marks K.o) m.o.length)[(ptrU true m.o (marks K.o) i).length]? = some (ptrF true m.o i):=h2
  constructor
  ·show (ptrU false m.y (marks K.y) m.y.length).length + (ptrU true m.o (marks K.o) i).length < _;rw [List.length_append];omega
  ·show (_ ++ _)[(ptrU false m.y (marks K.y) m.y.length).length + (ptrU true m.o (marks K.o) i).length]?.getD 0 = ptrF true m.o i;rw [List.getElem?_append_right (by omega),Nat.add_sub_cancel_left,h2,Option.getD_some]
theorem ptrs_end {m:Mm} {K:Bk}:ptrO m K false = 0∧ptrO m K false + (ptrU false (m.s false) (marks (K.s false)) (m.s false).length).length = ptrO m K true∧ptrO m K true + (ptrU true (m.s true) (marks (K.s true)) (m.s true).length).length = (ptrs m K).length:=by
 refine ⟨rfl,Nat.zero_add _,?_⟩;unfold ptrs ptrO;rw [List.length_append];rfl
def goodW (m:Mm) (K:Bk) (b:Bool) (k:Int) (v:Int):Prop:=Tm K v∧(pOk v = true→pOld v = false→b = false∧(k < m.at_→pIx v < m.at_))
def goodP (m:Mm) (K:Bk) (p:Int):Prop:=okO (ob K p) = true∧∀ v ∈ folB K p,goodW m K (pOld p) (pIx p) v
theorem sh_of_good {m:Mm} {K:Bk} (hy:Objs m.y K.y) (ho:Objs m.o K.o) (ly:m.y.length ≤ 100000) (lo:m.o.length ≤ 100000) (m0:0 ≤ m.at_) (m1:m.at_ ≤ m.y.length) (m2:m.at_ < m.y.length→∃ x,At K.y m.at_.toNat x) (h:∀ p ∈ ptrs m K,goodP m K p):Sh m K:=by
 refine ⟨hy,ho,by omega,by omega,m0,m1,m2,fun b i x hx=>?_⟩;obtain ⟨h1,h2,h3,h4,h5⟩:=ptrF_pt hy ho ly lo hx;have hg:=h _ ((ptrs_mem hy ho).2 ⟨b,i,x,hx,rfl⟩);have hpos:K.pos:=⟨hy.pos,ho.pos⟩;have hob:=h1.ob hpos;generalize ptrF b (m.s b) i = p at *;unfold goodP folB goodW at hg;rw [hob,h2,h3] at hg;exact hg
theorem good_of_sh {m:Mm} {K:Bk} (hs:Sh m K) (ly:m.y.length ≤ 100000) (lo:m.o.length ≤ 100000) {p:Int} (hp:p ∈ ptrs m K):goodP m K p:=by
 obtain ⟨b,i,x,hx,hpe⟩:=(ptrs_mem hs.y hs.o).1 hp;obtain ⟨h1,h2,h3,h4,h5⟩:=ptrF_pt hs.y hs.o ly lo hx;rw [← hpe] at h1 h2 h3;have hob:=h1.ob hs.pos;have:=hs.ok b i x hx;unfold goodP folB goodW;rw [hob,h2,h3];exact this
end cl
namespace cl
open Go.RowKit mem words
attribute [local go_sem] Oper.semAt_some
theorem pointers112 (w:World) (z:Nat):Calls Tryz.prog 130 #[.pointer (some ⟨z,0,none⟩)] w fun e w'=>e = .returned (.func (.func 185) #[] #[.pointer (some ⟨w.heap.size,0,none⟩)])∧w' = w.alloc (.cells #[.pointer (some ⟨z,0,none⟩)] 160):=by
 go_enter Tryz.func130,Tryz.ntmps130;go_wp2_with fail;go_ret;exact ⟨rfl,rfl⟩
def KeepsCells (V V':World):Prop:=∀ (k:Nat) (o:Obj),V.heap[k]? = some o→o.isCells = true→V'.heap[k]? = some o
theorem KeepsCells.refl (V:World):KeepsCells V V:=fun _ _ h _=>h
theorem KeepsCells.trans {A B C:World} (h:KeepsCells A B) (k:KeepsCells B C):KeepsCells A C:=fun i o hi ho=>k i o (h i o hi ho) ho
theorem KeepsCells.alloc {V V':World} (h:KeepsCells V V') (o:Obj):KeepsCells V (V'.alloc o):=fun i o' hi ho=>(Below.heap_alloc V' o i (Array.getElem?_eq_some_iff.1 (h i o' hi ho)).1).trans (h i o' hi ho)
theorem KeepsCells.put (V:World) (l:Nat) (o o':Obj) (h:V.heap[l]? = some o) (ho:o.isCells = false):KeepsCells V (V.putObj l o'):=fun i q hi hq=>(World.putObj_heap_other (by rintro rfl;rw [h] at hi;cases hi;rw [ho] at hq;cases hq)).trans hi
theorem KeepsCells.cell {V V':World} (h:KeepsCells V V') {a:Addr} {v:Value} (hc:V.cell? a = some v):V'.cell? a = some v:=by
 obtain ⟨o,ho,hco⟩:=cells_of_cell hc;exact (World.cell?_of_block ((h _ _ ho hco).trans ho.symm)).trans hc
theorem KeepsCells.below {B:Nat} {V V':World} (h:Below B V V') (hB:V.heap.size ≤ B):KeepsCells V V':=fun i o hi _=>(h.block i (by have:=(Array.getElem?_eq_some_iff.1 hi).1;omega)).trans hi
theorem RowAt.keeps {α:Type} {enc:α→Value} {w w':World} {B:Nat} {v:Value} {l:List α} (h:RowAt enc w B v l) (hk:KeepsCells w w'):RowAt enc w' B v l:=by
 obtain ⟨p,c,e,h1,h2,h3⟩:=h;refine ⟨p,c,e,h1,h2,fun hn=>?_⟩;obtain ⟨g,o,e',hg,hc⟩:=h3 hn;exact ⟨g,o,e',hg,fun j hj=>hk.cell (hc j hj)⟩
theorem AreaIn.keeps {w w':World} {B z o:Nat} {l:List Int} {a:List (List Int)} (h:AreaIn w B z o l a) (hk:KeepsCells w w'):AreaIn w' B z o l a:=by
 obtain ⟨⟨v1,v2,h1,h2,h3,h4⟩,h5,h6,h7⟩:=h;exact ⟨⟨v1,v2,hk.cell h1,hk.cell h2,h3.keeps hk,h4.keeps hk⟩,h5,h6,h7⟩
theorem HeapIn.keeps {w w':World} {B z:Nat} {m:Mm} {K:Bk} (h:HeapIn w B z m K) (hk:KeepsCells w w'):HeapIn w' B z m K:=⟨h.y.keeps hk,h.o.keeps hk⟩
structure PtrRd (B zc z:Nat) (m:Mm) (K:Bk) (i:Nat) (V:World):Prop where
 bc:V.cell? ⟨zc,0,none⟩ = some (.pointer (some ⟨z,0,none⟩))
 hp:HeapIn V B z m K
def ptrEnc (m:Mm) (K:Bk) (i:Nat):Array Value:=#[.int .u64 ((ptrs m K)[i]?.getD 0)]
theorem pointers135 (n B zc z:Nat) (hn:1 ≤ n) (m:Mm) (K:Bk):Gives Fence.wide n Tryz.prog 185 #[.pointer (some ⟨zc,0,none⟩)] (ptrEnc m K) (ptrs m K).length (PtrRd B zc z m K) KeepsCells:=by
 intro l J Jx W hRd hJ hJx hY h0;have HY:=Lib.hid hY;obtain ⟨bc,hp⟩:=hRd 0 W h0;have HP:=Lib.hid hp;have HJ:=Lib.hid hJ;have h0a:J 0 (W.alloc (.cells #[.bool false,.bool true] 4)):=hJ 0 _ _ h0 (World.grownBy_alloc W _ none);have hnew:(W.alloc (.cells #[.bool false,.bool true] 4)).heap[W.heap.size]? = some (.cells #[.bool false,.bool true] 4):=(MapKept.heap_alloc W (.cells #[.bool false,.bool true] 4)).1;have hka:KeepsCells W (W.alloc (.cells #[.bool false,.bool true] 4)):=(KeepsCells.refl W).alloc _;have bcc:=Lib.hid (hka.cell bc);have HP':=Lib.hid (hp.keeps hka);clear hRd hY hp hJ
 refine callsIn_of_wp Tryz.func185 rfl trivial ?_ rfl;simp only [Tryz.ntmps185,List.size_toArray,List.length_cons,List.length_nil,Nat.reduceAdd,Nat.reduceSub,Array.replicate_succ,Array.replicate_zero,List.push_toArray,List.append_toArray,List.nil_append,List.cons_append]
 gi_wp2
 have HZ:=Lib.hid hnew;clear h0 bc HP hka hnew;generalize (W.alloc (.cells #[.bool false,.bool true] 4)) = W1 at *;generalize W.heap.size = Z at *;have HPc:Hid (W1.cell? ⟨zc,0,none⟩ = some (.pointer (some ⟨z,0,none⟩))):=bcc;clear bcc
 gi_loopw [4,5,6,7,8,9,12] (fun _ _ _ _ _ _ a wr=>∃ (j:Nat),a = .int .i64 j∧j ≤ 2∧J (if j = 0 then 0 else if j = 1 then ptrO m K true else (ptrs m K).length) wr∧Hid (KeepsCells W1 wr)) (fun _ _ _ _ _ _ a _=>2 - (intOf a).toNat)
 case atStart=>exact ⟨0,rfl,by omega,h0a,Lib.hid (KeepsCells.refl _)⟩
 case round =>
  obtain ⟨j,rfl,hj,hJs,HKp⟩:=hrel
  by_cases hlt:j < 2
  ·have rl:(j:Int) < 2:=by omega
   have rq:decide ((j:Int) < 2) = true:=decide_eq_true rl;obtain ⟨b,hb,hjb,hje⟩:∃ b:Bool,wr.cell? ⟨Z,j,none⟩ = some (.bool b)∧(if j = 0 then 0 else if j = 1 then ptrO m K true else (ptrs m K).length) = ptrO m K b∧(if j + 1 = 0 then 0 else if j + 1 = 1 then ptrO m K true else (ptrs m K).length) = ptrO m K b + (ptrU b (m.s b) (marks (K.s b)) (m.s b).length).length:=by
    have hz:=two_cells HZ.out;have he:=ptrs_end (m:=m) (K:=K);have:j = 0∨j = 1:=by omega
    rcases this with rfl | rfl
    ·exact ⟨false,HKp.out.cell hz.1,by simp [he.1],by simp only [Nat.zero_add,if_neg (show ¬ (1 = 0) by decide),if_pos];exact he.2.1.symm⟩
    ·exact ⟨true,HKp.out.cell hz.2.1,by simp,by simp;exact he.2.2.symm⟩
   rw [hjb] at hJs;have HJE:=Lib.hid hje;have hc0:=HKp.out.cell HPc.out;have HA:=Lib.hid ((HP'.out.keeps HKp.out).s b);have HOf:=Lib.hid (of123 wr z b);obtain ⟨u1,u2,hcw,hcb,hu1,hu2⟩:=HA.out.ex;obtain ⟨p2,c2,rfl,_⟩:=id hu2;obtain ⟨p1,c1,rfl,_⟩:=id hu1;have hml:(marks (K.s b)).length = (m.s b).length:=by rw [marks_len HA.out.objs.pos,HA.out.objs.1]
   rw [hml] at hcb hu2;have HU1:=Lib.hid hu1;have HU2:=Lib.hid hu2;have HCW:=Lib.hid hcw;have HML:=Lib.hid hml;have HLT:=Lib.hid hlt;generalize (if b then 2 else 0:Nat) = q at *;clear hu1 hu2 hjb hje hcw hml;have HJ0:=Lib.hid hJs;have HK0:=Lib.hid HKp.out;clear hJs HKp HP';rename_i R1 R2;clear R1 R2;have hlen:=HA.out.len
   gi_wp2_with (refine ⟨trivial,?_⟩;gi_at_call 143;refine (callsIn_wide.2 HOf.out).mono ?_;rintro e w' ⟨rfl,rfl⟩)
   clear hcb hc0 hb rl rq hlt h0a;obtain ⟨w0,rfl⟩:∃ w0:World,w0 = wr:=⟨_,rfl⟩
   gi_loopw [6,7,8,9,24] (fun _ _ _ _ a wr=>∃ (i:Nat),a = .int .i64 i∧i ≤ (m.s b).length∧J (ptrO m K b + (ptrU b (m.s b) (marks (K.s b)) i).length) wr∧Hid (KeepsCells w0 wr)) (fun _ _ _ _ a _=>(m.s b).length - (intOf a).toNat)
   case atStart=>exact ⟨0,rfl,by omega,HJ0.out,Lib.hid (KeepsCells.refl _)⟩
   case round =>
    obtain ⟨i,rfl,hi,hJs,HKp⟩:=hrel
    by_cases hlt:i < (m.s b).length
    ·have rl:(i:Int) < ((m.s b).length:Int):=by omega
     have rq:decide ((i:Int) < ((m.s b).length:Int)) = true:=decide_eq_true rl;obtain ⟨g2,o2,e2,en2,hg2,hcl2⟩:=RowAt.cellB HU2.out (by rw [HML.out];omega);have hcf:=HKp.out.cell (hcl2 i (by rw [HML.out];omega));clear en2;subst e2
     cases hf:(marks (K.s b)).getD i false
     ·rw [hf] at hcf;have HNx:=Lib.hid (ptrU_no (b:=b) (l:=m.s b) hf);clear hf hcl2
      gi_wp2
      go_roundw
      case rel=>exact ⟨i + 1,by go_num,by omega,by rw [HNx.out];exact hJs,HKp⟩
      case measure=>simp [intOf];omega
     ·rw [hf] at hcf;obtain ⟨g1,o1,e1,hg1,hcl1⟩:=RowAt.nth' HU1.out (by omega);subst e1;obtain ⟨x,hx⟩:∃ x,(m.s b)[i]? = some x:=⟨_,List.getElem?_eq_getElem hlt⟩;have hcx:=HKp.out.cell (hcl1 i x hx);have hcw1:=HKp.out.cell HCW.out;have hxr:=HA.out.wds x (List.mem_of_getElem? hx);have HNx:=Lib.hid (ptrU_yes (b:=b) (l:=m.s b) hf);obtain ⟨hg,he⟩:=ptrs_get (m:=m) (K:=K) (b:=b) hf hlt;have hpf:ptrF b (m.s b) i = ptrW (if x % 4 = 0 then 2 else 1) b i:=by
       unfold ptrF;rw [List.getD_eq_getElem?_getD,hx];rfl
      obtain ⟨fn,tmps,assign,body,hy,hR⟩:=HY.out _ wr hJs hg;unfold ptrEnc at hy;rw [he,hpf] at hy;have HT:=Lib.hid (Tag x hxr.1 hxr.2 wr);have HBx:=Lib.hid (Box b i wr);have HLs:=Lib.hid (words.List b i wr);clear hf hcl2 hcl1 hx hxr he hpf hg
      by_cases h4:x % 4 = 0
      ·have q4:(x % 4 != 0) = false:=by simp [h4]
       rw [if_pos h4] at hy;clear h4
       gi_wp2_with (first | (refine ⟨trivial,?_⟩;gi_at_call 148;refine (callsIn_wide.2 HBx.out).mono ?_;rintro e w' ⟨rfl,rfl⟩) | (refine ⟨trivial,?_⟩;gi_at_call 145;refine (callsIn_wide.2 HT.out).mono ?_;rintro e w' ⟨rfl,rfl⟩))
       refine hR.mono ?_
       rintro e W3 (⟨rfl,hJ3,hK3⟩ | ⟨rfl,hJx3⟩)
       ·have HK3:=Lib.hid (HKp.out.trans hK3);clear hK3
        gi_wp2
        go_roundw
        case rel=>exact ⟨i + 1,by go_num,by omega,by rw [HNx.out,List.length_append,← Nat.add_assoc];exact hJ3,HK3⟩
        case measure=>simp [intOf];omega
       ·gi_wp2
        refine bodyPost_ret (results_none rfl _ _ _) rfl ?_;exact ⟨⟨_,rfl⟩,.inr ⟨_,hJx3⟩⟩
      ·have q4:(x % 4 != 0) = true:=by simp [h4]
       rw [if_neg h4] at hy;clear h4
       gi_wp2_with (first | (refine ⟨trivial,?_⟩;gi_at_call 148;refine (callsIn_wide.2 HBx.out).mono ?_;rintro e w' ⟨rfl,rfl⟩) | (refine ⟨trivial,?_⟩;gi_at_call 166;refine (callsIn_wide.2 HLs.out).mono ?_;rintro e w' ⟨rfl,rfl⟩) | (refine ⟨trivial,?_⟩;gi_at_call 145;refine (callsIn_wide.2 HT.out).mono ?_;rintro e w' ⟨rfl,rfl⟩))
       refine hR.mono ?_
       rintro e W3 (⟨rfl,hJ3,hK3⟩ | ⟨rfl,hJx3⟩)
       ·have HK3:=Lib.hid (HKp.out.trans hK3);clear hK3
        gi_wp2
        go_roundw
        case rel=>exact ⟨i + 1,by go_num,by omega,by rw [HNx.out,List.length_append,← Nat.add_assoc];exact hJ3,HK3⟩
        case measure=>simp [intOf];omega
       ·gi_wp2
        refine bodyPost_ret (results_none rfl _ _ _) rfl ?_;exact ⟨⟨_,rfl⟩,.inr ⟨_,hJx3⟩⟩
    ·obtain rfl:i = (m.s b).length:=by omega
     have rq:decide (((m.s b).length:Int) < ((m.s b).length:Int)) = false:=decide_eq_false (by omega)
     gi_wp2
     go_roundw
     case rel=>exact ⟨j + 1,by go_num,by have:=HLT.out;omega,by rw [HJE.out];exact hJs,Lib.hid (HK0.out.trans HKp.out)⟩
     case measure=>have:=HLT.out;simp [intOf];omega
  ·obtain rfl:j = 2:=by omega
   have rq:decide ((2:Int) < 2) = false:=by decide
   gi_wp2
   go_end0
   exact ⟨⟨_,rfl⟩,.inl hJs⟩
end cl
end Go.Proofs.YtpnlnbolhkcnjaaGreat
