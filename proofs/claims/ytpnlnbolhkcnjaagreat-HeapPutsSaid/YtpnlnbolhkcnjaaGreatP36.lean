/- HrO,HrP. No condition beyond theirs. -/
import Derived.Test.YtpnlnbolhkcnjaaGreatP35
set_option linter.unusedSimpArgs false
set_option linter.unusedVariables false
set_option maxHeartbeats 4000000
set_option maxRecDepth 100000
namespace Go.Proofs.YtpnlnbolhkcnjaaGreat.hp
open Go.RowKit mem words rec tm
theorem words_row {w:World} {B:Nat} {v:Value} {l:List Int} (h:cl.WAt w B v l):RecAt encW 1 w B v l:=by
 obtain ⟨p,c,e,h1,h2,h3⟩:=h;refine ⟨p,c,e,h1,h2,fun hn=>?_⟩;obtain ⟨g,o,e',hg,hc⟩:=h3 hn;refine ⟨g,o,e',hg,fun j x hj k u hu=>?_⟩;obtain ⟨hl,rfl⟩:=List.getElem?_eq_some_iff.1 hj;have hk:k = 0:=by
  have:=(List.getElem?_eq_some_iff.1 hu).1;simpa [encW] using this
 subst hk;simp only [encW,List.getElem?_cons_zero,Option.some.injEq] at hu;subst hu;rw [Nat.mul_one,Nat.add_zero];exact hc j hl
section
variable {w:World} {B z a b:Nat} {c:Int} {σ:St} {S:Nat→Prop}
theorem heapQ (h:HQ w B z a b c σ S) (hY:σ.Y.length ≤ 100000):cl.HeapIn w w.heap.size z ⟨σ.Y,[],0⟩ (Kb σ):=by
 obtain ⟨vY,vF,m,p,cc,m1,m2,h⟩:=h
 refine ⟨⟨⟨vY,vF,(cell_of_blk h.ha.blk).trans rfl,(cell_of_blk h.ha.blk).trans rfl,row_words (h.ha.y.row (encW_ok _)),row_flags (h.ha.f.row (encF_ok _))⟩,⟨rfl,fun o ho=>(h.pos o ho).1⟩,fun x hx=>?_,hY⟩,⟨⟨.slice none 0 0,.slice none 0 0,(cell_of_blk h.ha.blk).trans rfl,(cell_of_blk h.ha.blk).trans rfl,?_,?_⟩,⟨rfl,fun o ho=>by simp [Kb] at ho⟩,fun x hx=>by simp at hx,Nat.zero_le _⟩⟩
 ·obtain ⟨o,ho,hxo⟩:=List.mem_flatten.1 hx;exact (h.pos o ho).2 x hxo
 ·exact ⟨none,0,rfl,Nat.le_refl _,by unfold maxLen;omega,fun h=>absurd rfl h⟩
 ·exact ⟨none,0,rfl,Nat.le_refl _,by unfold maxLen;omega,fun h=>absurd rfl h⟩
theorem HQ.posO (h:HQ w B z a b c σ S):cl.Pos σ.O:=by
 obtain ⟨vY,vF,m,p,cc,m1,m2,h⟩:=h;intro o ho;obtain ⟨x,r,rfl,_⟩:=(h.pos o ho).1;simp
theorem heapQ2 (h:HQ w B z a b c σ S) (hY:σ.Y.length ≤ 100000) {W:World} (hb:Below w.heap.size w W):cl.HeapIn W w.heap.size z ⟨σ.Y,[],0⟩ (Kb σ):=by
 have hzl:z < w.heap.size:=by
  obtain ⟨vY,vF,m,p,cc,m1,m2,h⟩:=h;exact (h.ha.hb_lt z (.inl rfl)).2
 obtain ⟨⟨⟨v1,v2,a1,a2,a3,a4⟩,a5,a6,a7⟩,⟨⟨u1,u2,b1,b2,b3,b4⟩,b5,b6,b7⟩⟩:=heapQ h hY;have e:∀ i,W.cell? ⟨z,i,none⟩ = w.cell? ⟨z,i,none⟩:=fun i=>World.cell?_of_block (w:=w) (w':=W) (a:=⟨z,i,none⟩) (hb.block z hzl);exact ⟨⟨⟨v1,v2,(e _).trans a1,(e _).trans a2,a3.below hb (Nat.le_refl _),a4.below hb (Nat.le_refl _)⟩,a5,a6,a7⟩,⟨⟨u1,u2,(e _).trans b1,(e _).trans b2,b3.below hb (Nat.le_refl _),b4.below hb (Nat.le_refl _)⟩,b5,b6,b7⟩⟩
def ObP2 (B0:Nat) (k:Int) (l:List Int) (w:World) (e:Ending) (w':World):Prop:=∃ u,e = .returned (.tuple #[.int .i64 k,u,.bool true])∧RecAt encW 1 w' B0 u l∧Below w.heap.size w w'
theorem objQ2 (h:HQ w B z a b c σ S) (hY:σ.Y.length ≤ 100000) {W:World} (hb:Below w.heap.size w W) {v:Int} {x:List Int} (v0:0 ≤ v) (v1:v ≤ 18446744073709551615) (hp:cl.Pt (Kb σ) v x) :
 Calls Tryz.prog 75 #[.pointer (some ⟨z,0,none⟩),.int .u64 v] W (ObP2 w.heap.size (cl.knd x) (cl.wds x) W) :=
 (cl.object96 W w.heap.size z _ _ (heapQ2 h hY hb) v v0 v1).mono fun e w' hh=>by
   obtain ⟨n,rfl,⟨y,u,hy,rfl,hu⟩ | ⟨hn,_⟩⟩:=hh
   ·obtain rfl:=cl.Pt.uniq (heapQ2 h hY hb).pos hy hp;exact ⟨u,rfl,words_row (hu.drewN n),⟨rfl,rfl,rfl,Nat.le_refl _,fun _ _=>rfl⟩⟩
   ·exact absurd ⟨x,hp⟩ hn
theorem objN (h:HQ w B z a b c σ S) (hY:σ.Y.length ≤ 100000) {v:Int} (v0:0 ≤ v) (v1:v ≤ 18446744073709551615) (hp:¬ ∃ x,cl.Pt (Kb σ) v x) :
 Calls Tryz.prog 75 #[.pointer (some ⟨z,0,none⟩),.int .u64 v] w fun e w'=>e = .returned (.tuple #[.int .i64 0,.slice none 0 0,.bool false])∧Below w.heap.size w w' :=
 (cl.object96 w w.heap.size z _ _ (heapQ h hY) v v0 v1).mono fun e w' hh=>by
   obtain ⟨n,rfl,⟨y,u,hy,rfl,hu⟩ | ⟨hn,rfl⟩⟩:=hh
   ·exact absurd ⟨y,hy⟩ hp
   ·exact ⟨rfl,⟨rfl,rfl,rfl,Nat.le_refl _,fun _ _=>rfl⟩⟩
end
def GetP {n:Nat} (f:TF) (l:List (Tm n)) (w:World) (e:Ending) (w':World):Prop:=∃ u,e = .returned (aggV f u)∧ItemsIn w' (fun g=>w.heap.size ≤ g∧g < w'.heap.size) n u l∧Below w.heap.size w w'
def encR (q:TF × Value):List Value:=[.int .i64 q.1.kind,.int .i64 q.1.int,.int .i64 q.1.gen,.string q.1.name,.string q.1.func,.int .i64 q.1.arity,q.2,.string q.1.bytes,.int .i64 q.1.bits]
theorem rows_in {n:Nat} {w:World} {B0:Nat} {v:Value} {rows:List (TF × Value)} {F:Nat→Prop} (h:RecOwn encR 38 9 w B0 v rows) (hE:EncOK encR 9 rows) (hF:∀ g,v.ownBlock = some g→F g) {l:List (Tm (n + 1))} (hl:rows.length = l.length) (hr:∀ j,(h1:j < rows.length)→(h2:j < l.length)→rows[j].1 = l[j].f∧ItemsIn w F n rows[j].2 l[j].items):ItemsIn w F (n + 1) v l:=by
 have hrow:=h.row hE;obtain ⟨p,c,e,h1,h2,h3⟩:=hrow;refine ⟨p,c,by rw [← hl];exact e,by omega,h2,fun hn=>?_⟩;obtain ⟨g,o,e',hg,hc⟩:=h3 (fun q=>by
  rw [q] at hl
  exact hn (List.eq_nil_of_length_eq_zero hl.symm))
 refine ⟨g,o,e',hF g (by rw [e,e'];rfl),fun j hj=>?_⟩;have hj':j < rows.length:=by omega
 obtain ⟨q1,q2⟩:=hr j hj' hj;have hcc:=hc j rows[j] (List.getElem?_eq_getElem hj');refine ⟨rows[j].2,?_,q2⟩;rw [← q1];exact ⟨hcc 0 _ rfl,hcc 1 _ rfl,hcc 2 _ rfl,hcc 3 _ rfl,hcc 4 _ rfl,hcc 5 _ rfl,hcc 6 _ rfl,hcc 7 _ rfl,hcc 8 _ rfl⟩
theorem encR_ok (l:List (TF × Value)) (h:∀ q ∈ l,q.2.oneCell' = true):EncOK encR 9 l:=fun q hq=>⟨rfl,fun u hu=>by
 simp only [encR,List.mem_cons,List.not_mem_nil,or_false] at hu
 rcases hu with rfl | rfl | rfl | rfl | rfl | rfl | rfl | rfl | rfl <;> first | rfl | exact h q hq⟩
abbrev C9f (f:TF) (v:Value):Array Value:=#[.int .i64 f.kind,.int .i64 f.int,.int .i64 f.gen,.string f.name,.string f.func,.int .i64 f.arity,v,.string f.bytes,.int .i64 f.bits]
theorem nine1 (f:TF) {v:Value} (h:v.oneCell' = true):(C9f f v).all (·.oneCell') = true:=by
 cases v <;> simp_all [Value.oneCell']
section
variable {w:World} {B z a b:Nat} {c:Int} {σ:St} {S:Nat→Prop}
def Get0 (f:TF) (w:World) (e:Ending) (w':World):Prop:=e = .returned (aggV f nilV)∧Below w.heap.size w w'
theorem Get0.any {f:TF} {w w':World} {e:Ending} (h:Get0 f w e w') {n:Nat} {l:List (Tm n)} (hl:l = []):GetP f l w e w':=by
 subst hl;exact ⟨nilV,h.1,ItemsIn.nil_any (by unfold maxLen;omega),h.2⟩
theorem get_int (p:Option Addr) {v:Int} (v0:0 ≤ v) (v1:v ≤ 18446744073709551615) (h:soOk v = true) (w:World):Calls Tryz.prog 86 #[.pointer p,.int .u64 v] w (Get0 ⟨1,soN v,0,e0,e0,0,e0,0⟩ w):=by
 have HS:=Lib.hid (fun W=>words.SmallOf v v0 v1 W);rw [h] at HS;have HI:=Lib.hid (fun W=>int153 W (soN v));have HZ:=Lib.hid (heap_alloc_new w (.cells zC 38));have HB:=Lib.hid (belowA (Below.refl _ w) (.cells zC 38));clear h v0 v1;unfold Get0;generalize soN v = n at *;go_enter Tryz.func86,Tryz.ntmps86;go_wp2_with fail;refine (HS.out _).mono ?_;rintro e w1 ⟨rfl,rfl⟩;go_wp2_with fail;refine (HI.out _).mono ?_;rintro e w1 ⟨rfl,hb⟩;have HZ1:=Lib.hid ((hb.block w.heap.size (by rw [World.size_alloc];omega)).trans HZ.out);have HB1:=Lib.hid (HB.out.trans (hb.mono HB.out.size));clear hb
 go_wp2_with (refine wpList_store_row rfl 38 (.tmp 4) (.tmp 22) rfl w.heap.size (flatC 1 n) rfl rfl 38 zC HZ1.out i38 rfl (one9 1 n) ?_)
 go_wp2_with fail;refine bodyPost_ret (v:=flatT 1 n) (ret_row rfl _ rfl (cs:=flatL 1 n) rfl (range_blk (setRow_heap _ _ _ _ _ _ HZ1.out))) rfl ⟨rfl,below_setRow HB1.out (Nat.le_refl _) _⟩
theorem get_atom (h:HQ w B z a b c σ S) (hN:σ.N.length ≤ 500000) {v:Int} (v0:0 ≤ v) (v1:v ≤ 18446744073709551615) (hs:soOk v = false) (ha:aoOk v = true):Calls Tryz.prog 86 #[.pointer (some ⟨z,0,none⟩),.int .u64 v] w (Get0 ⟨2,0,0,nameO σ v,e0,0,e0,0⟩ w):=by
 have HS:=Lib.hid (fun W=>words.SmallOf v v0 v1 W);rw [hs] at HS;have HA':=Lib.hid (fun W=>words.AtomOf v v0 v1 W);rw [ha] at HA';have HNm:=Lib.hid (name154 (h.below (belowA (Below.refl _ w) (.cells zC 38))) hN v v0 v1);have HZ:=Lib.hid (heap_alloc_new w (.cells zC 38));have HB:=Lib.hid (belowA (Below.refl _ w) (.cells zC 38));clear h hN v0 v1 hs ha;unfold Get0;generalize nameO σ v = nm at *;go_enter Tryz.func86,Tryz.ntmps86;go_wp2_with fail;refine (HS.out _).mono ?_;rintro e w1 ⟨rfl,rfl⟩;go_wp2_with fail;refine (HA'.out _).mono ?_;rintro e w1 ⟨rfl,rfl⟩;go_wp2_with fail;refine HNm.out.mono ?_
 rintro e w1 ⟨rfl,rfl⟩;go_wp2_with (refine wpList_store_row rfl 38 (.tmp 4) (.tmp 32) rfl w.heap.size (C9f ⟨2,0,0,nm,e0,0,e0,0⟩ nilV) rfl rfl 38 zC HZ.out i38 rfl (nine1 _ rfl) ?_)
 go_wp2_with fail;refine bodyPost_ret (v:=aggV ⟨2,0,0,nm,e0,0,e0,0⟩ nilV) (ret_row rfl _ rfl (cs:=encR (⟨2,0,0,nm,e0,0,e0,0⟩,nilV)) rfl (range_blk (setRow_heap _ _ _ _ _ _ HZ.out))) rfl ⟨rfl,below_setRow HB.out (Nat.le_refl _) _⟩
theorem get_nil (h:HQ w B z a b c σ S) (hY:σ.Y.length ≤ 100000):Calls Tryz.prog 86 #[.pointer (some ⟨z,0,none⟩),.int .u64 11] w (Get0 ⟨8,0,0,e0,e0,0,e0,0⟩ w):=by
 have HS:=Lib.hid (fun W=>words.SmallOf 11 (by omega) (by omega) W);have HA':=Lib.hid (fun W=>words.AtomOf 11 (by omega) (by omega) W);have e1:aoOk 11 = false:=by decide
 have e2:aoN 11 = 0:=by decide
 have e3:soOk 11 = false:=by decide
 have e4:soN 11 = 0:=by decide
 rw [e3,e4] at HS;rw [e1,e2] at HA';have HI:=Lib.hid (fun W=>nil155 W);have HZ:=Lib.hid (heap_alloc_new w (.cells zC 38));have HB:=Lib.hid (belowA (Below.refl _ w) (.cells zC 38));have HO:=Lib.hid (objN (h.below (belowA (Below.refl _ w) (.cells zC 38))) hY (v:=11) (by omega) (by omega) (no_pt (by omega)));clear e1 e2 e3 e4 h;go_enter Tryz.func86,Tryz.ntmps86;go_wp2_with fail;refine (HS.out _).mono ?_;rintro e w1 ⟨rfl,rfl⟩;go_wp2_with fail;refine (HA'.out _).mono ?_;rintro e w1 ⟨rfl,rfl⟩;go_wp2_with fail;refine HO.out.mono ?_;rintro e w1 ⟨rfl,hb⟩
 have HZ1:=Lib.hid ((hb.block w.heap.size (by rw [World.size_alloc];omega)).trans HZ.out);have HB1:=Lib.hid (HB.out.trans (hb.mono HB.out.size));have HSz:Hid (w.heap.size < w1.heap.size):=Lib.hid (by have:=hb.size;rw [World.size_alloc] at this;omega);clear hb HO;go_wp2_with fail;refine (HI.out _).mono ?_;rintro e w2 ⟨rfl,hb⟩;have HZ2:=Lib.hid ((hb.block w.heap.size HSz.out).trans HZ1.out);have HB2:=Lib.hid (HB1.out.trans (hb.mono HB1.out.size));clear hb;go_wp2_with (refine wpList_store_row rfl 38 (.tmp 4) (.tmp 44) rfl w.heap.size (flatC 8 0) rfl rfl 38 zC HZ2.out i38 rfl (one9 8 0) ?_)
 go_wp2_with fail;refine bodyPost_ret (v:=flatT 8 0) (ret_row rfl _ rfl (cs:=flatL 8 0) rfl (range_blk (setRow_heap _ _ _ _ _ _ HZ2.out))) rfl ⟨rfl,below_setRow HB2.out (Nat.le_refl _) _⟩
end
section
variable {w:World} {B z a b:Nat} {c:Int} {σ:St} {S:Nat→Prop}
theorem conv40 (y:Int) (h0:0 ≤ y) (h1:y ≤ 18446744073709551615):IntKind.i64.wrap y = sgn y:=by
 rw [IntKind.wrap_i64];unfold sgn
 split <;> omega
theorem get_x6 (h:HQ w B z a b c σ S) (hY:σ.Y.length ≤ 100000) (hN:σ.N.length ≤ 500000) {v:Int} (v0:0 ≤ v) (v1:v ≤ 18446744073709551615) (hs:soOk v = false) (ha:aoOk v = false) {x:List Int} (hp:cl.Pt (Kb σ) v x) (hk:cl.knd x = 6) {y:Int} (hw:cl.wds x = [y]) (y0:0 ≤ y) (y1:y ≤ 18446744073709551615) :
 Calls Tryz.prog 86 #[.pointer (some ⟨z,0,none⟩),.int .u64 v] w (Get0 ⟨1,sgn y,0,e0,e0,0,e0,0⟩ w):=by
 have HS:=Lib.hid (fun W=>words.SmallOf v v0 v1 W);rw [hs] at HS;have HA':=Lib.hid (fun W=>words.AtomOf v v0 v1 W);rw [ha] at HA';have hb0:Below w.heap.size w (w.alloc (.cells zC 38)):=belowA (Below.refl _ w) _;have hsz:(w.alloc (.cells zC 38)).heap.size = w.heap.size + 1:=World.size_alloc _ _;have HO:=Lib.hid (objQ2 h hY hb0 v0 v1 hp);rw [hk,hw] at HO;have HZ:=Lib.hid (heap_alloc_new w (.cells zC 38));have HB:=Lib.hid hb0;have HSZ:=Lib.hid hsz;have HQ0:=Lib.hid h;have hcv:=conv40 y y0 y1;generalize sgn y = yn at *;have HI:=Lib.hid (fun W=>int153 W yn)
 clear h hs ha hp hk hw hb0 hsz v0 v1 y0 y1;unfold Get0;go_enter Tryz.func86,Tryz.ntmps86;go_wp2_with fail;refine (HS.out _).mono ?_;rintro e w1 ⟨rfl,rfl⟩;go_wp2_with fail;refine (HA'.out _).mono ?_;rintro e w1 ⟨rfl,rfl⟩;go_wp2_with fail;refine HO.out.mono ?_;rintro e w1 ⟨u,rfl,hr,hb⟩;have HR:=Lib.hid hr;obtain ⟨p,k,e,hk1,hk2⟩:=hr.shape;rw [e] at hr HR;obtain ⟨g,o,rfl,hml,hg,hc⟩:=hr.nth (by simp);subst e;have r0:w1.cell? ⟨g,o,none⟩ = some (.int .u64 y):=by simpa using hc 0 y rfl 0 _ rfl
 have HZ1:=Lib.hid ((hb.block w.heap.size (by have:=HSZ.out;omega)).trans HZ.out);have HB1:=Lib.hid (HB.out.trans (hb.mono HB.out.size));have HG:Hid (g < w.heap.size∧w.heap.size < w1.heap.size):=Lib.hid (by have:=HSZ.out;have:=hb.size;omega);have HFx:Hid (∀ W,Calls Tryz.prog 133 #[.int .i64 6,.slice (some ⟨g,o,none⟩) (1) k] W fun e w'=>e = .returned (.int .i64 ((1:Nat):Int))∧W = w'):=Lib.hid (fun W=>by
  have h:=cl.fixed114 W (some ⟨g,o,none⟩) (1) k 6
  simpa [cl.fxd] using h)
 have hk1':(1) = k∨(((1):Nat):Int) < (k:Int):=by
  have:(1) ≤ k:=by simpa using hk1
  omega
 clear hml hr hc hb hk1 hk2 HO HZ;rcases hk1' with rfl | hk1'
 all_goals
  go_wp2_with fail;refine (HFx.out _).mono ?_;rintro e w2 ⟨rfl,rfl⟩;go_wp2_with fail;refine wp_loop_rounds 1 ?_;rw [rounds_succ];go_wp2_with fail;refine (HI.out _).mono ?_;rintro e w2 ⟨rfl,hb2⟩;have HZ2:=Lib.hid ((hb2.block w.heap.size (Array.getElem?_eq_some_iff.1 HZ1.out).1).trans HZ1.out);have HB2:=Lib.hid (HB1.out.trans (hb2.mono HB1.out.size));clear hb2;go_wp2_with (refine wpList_store_row rfl 38 (.tmp 4) (.tmp 179) rfl w.heap.size (C9f ⟨1,yn,0,e0,e0,0,e0,0⟩ nilV) rfl rfl 38 zC HZ2.out i38 rfl (nine1 _ rfl) ?_)
  go_wp2_with fail;refine bodyPost_ret (v:=aggV ⟨1,yn,0,e0,e0,0,e0,0⟩ nilV) (ret_row rfl _ rfl (cs:=encR (⟨1,yn,0,e0,e0,0,e0,0⟩,nilV)) rfl (range_blk (setRow_heap _ _ _ _ _ _ HZ2.out))) rfl ⟨rfl,below_setRow HB2.out (Nat.le_refl _) _⟩
theorem get_x7 (h:HQ w B z a b c σ S) (hY:σ.Y.length ≤ 100000) (hN:σ.N.length ≤ 500000) {v:Int} (v0:0 ≤ v) (v1:v ≤ 18446744073709551615) (hs:soOk v = false) (ha:aoOk v = false) {x:List Int} (hp:cl.Pt (Kb σ) v x) (hk:cl.knd x = 7) {lw:List Int} {m:Nat} (hw:cl.wds x = lw) (hlw:lw.length = m) (hm:0 < m) {s:ByteArray} {n:Int} (hB:BitsOk s n) (hT:∀ W Bx u,Below w.heap.size w W→RecAt encW 1 W Bx u lw→Bx ≤ W.heap.size→Calls Tryz.prog 81 #[.pointer (some ⟨z,0,none⟩),.int .i64 7,u] W fun e w'=>e = .returned (.agg #[.string s,.int .i64 n])∧Below W.heap.size W w') :
 Calls Tryz.prog 86 #[.pointer (some ⟨z,0,none⟩),.int .u64 v] w (Get0 ⟨10,0,0,e0,e0,0,s,n⟩ w):=by
 have HS:=Lib.hid (fun W=>words.SmallOf v v0 v1 W);rw [hs] at HS;have HA':=Lib.hid (fun W=>words.AtomOf v v0 v1 W);rw [ha] at HA';have hb0:Below w.heap.size w (w.alloc (.cells zC 38)):=belowA (Below.refl _ w) _;have hsz:(w.alloc (.cells zC 38)).heap.size = w.heap.size + 1:=World.size_alloc _ _;have HO:=Lib.hid (objQ2 h hY hb0 v0 v1 hp);rw [hk,hw] at HO;have HZ:=Lib.hid (heap_alloc_new w (.cells zC 38));have HB:=Lib.hid hb0;have HSZ:=Lib.hid hsz;have HQ0:=Lib.hid h;have HT:=Lib.hid hT;have HTm:=Lib.hid (fun W=>term156 s n hB W);have HM:=Lib.hid hm;clear h hs ha hp hk hw hb0 hsz v0 v1 hB hT
 unfold Get0;go_enter Tryz.func86,Tryz.ntmps86;go_wp2_with fail;refine (HS.out _).mono ?_;rintro e w1 ⟨rfl,rfl⟩;go_wp2_with fail;refine (HA'.out _).mono ?_;rintro e w1 ⟨rfl,rfl⟩;go_wp2_with fail;refine HO.out.mono ?_;rintro e w1 ⟨u,rfl,hr,hb⟩;have HR:=Lib.hid hr;obtain ⟨p,k,e,hk1,hk2⟩:=hr.shape;rw [hlw] at e hk1;rw [e] at hr HR;obtain ⟨g,o,rfl,hml,hg,hc⟩:=hr.nth (by rw [hlw];exact hm);subst e;have HTx:=Lib.hid (HT.out w1 _ _ (HB.out.trans (hb.mono HB.out.size)) HR.out (HB.out.trans (hb.mono HB.out.size)).size);have HZ1:=Lib.hid ((hb.block w.heap.size (by have:=HSZ.out;omega)).trans HZ.out)
 have HB1:=Lib.hid (HB.out.trans (hb.mono HB.out.size));have HG:Hid (g < w.heap.size∧w.heap.size < w1.heap.size):=Lib.hid (by have:=HSZ.out;have:=hb.size;omega);have HFx:Hid (∀ W,Calls Tryz.prog 133 #[.int .i64 7,.slice (some ⟨g,o,none⟩) (m) k] W fun e w'=>e = .returned (.int .i64 ((m:Nat):Int))∧W = w'):=Lib.hid (fun W=>by
  have h:=cl.fixed114 W (some ⟨g,o,none⟩) (m) k 7
  simpa [cl.fxd] using h)
 have hk1':(m) = k∨(((m):Nat):Int) < (k:Int):=by
  have:(m) ≤ k:=hk1;omega
 clear hml hr hc hb hk1 hk2 HO HZ hlw hm;rcases hk1' with rfl | hk1'
 all_goals
  go_wp2_with fail;refine (HFx.out _).mono ?_;rintro e w2 ⟨rfl,rfl⟩;go_wp2_with fail;refine wp_loop_rounds 1 ?_;rw [rounds_succ];go_wp2_with fail;refine (HTx.out).mono ?_;rintro e w2 ⟨rfl,hb2⟩;go_wp2_with fail;refine (HTm.out _).mono ?_;rintro e w3 ⟨rfl,hb3⟩;have hb4:=hb2.trans (hb3.mono hb2.size);have HZ2:=Lib.hid ((hb4.block w.heap.size (Array.getElem?_eq_some_iff.1 HZ1.out).1).trans HZ1.out);have HB2:=Lib.hid (HB1.out.trans (hb4.mono HB1.out.size));clear hb2 hb3 hb4
  go_wp2_with (refine wpList_store_row rfl 38 (.tmp 4) (.tmp 184) rfl w.heap.size (C9f ⟨10,0,0,e0,e0,0,s,n⟩ nilV) rfl rfl 38 zC HZ2.out i38 rfl (nine1 _ rfl) ?_)
  go_wp2_with fail;refine bodyPost_ret (v:=aggV ⟨10,0,0,e0,e0,0,s,n⟩ nilV) (ret_row rfl _ rfl (cs:=encR (⟨10,0,0,e0,e0,0,s,n⟩,nilV)) rfl (range_blk (setRow_heap _ _ _ _ _ _ HZ2.out))) rfl ⟨rfl,below_setRow HB2.out (Nat.le_refl _) _⟩
theorem get_x8 (h:HQ w B z a b c σ S) (hY:σ.Y.length ≤ 100000) (hN:σ.N.length ≤ 500000) {v:Int} (v0:0 ≤ v) (v1:v ≤ 18446744073709551615) (hs:soOk v = false) (ha:aoOk v = false) {x:List Int} (hp:cl.Pt (Kb σ) v x) (hk:cl.knd x = 8) {lw:List Int} {m:Nat} (hw:cl.wds x = lw) (hlw:lw.length = m) (hm:0 < m) {s:ByteArray} {n:Int} (hB:BitsOk s n) (hT:∀ W Bx u,Below w.heap.size w W→RecAt encW 1 W Bx u lw→Bx ≤ W.heap.size→Calls Tryz.prog 81 #[.pointer (some ⟨z,0,none⟩),.int .i64 8,u] W fun e w'=>e = .returned (.agg #[.string s,.int .i64 n])∧Below W.heap.size W w') :
 Calls Tryz.prog 86 #[.pointer (some ⟨z,0,none⟩),.int .u64 v] w (Get0 ⟨10,0,0,e0,e0,0,s,n⟩ w):=by
 have HS:=Lib.hid (fun W=>words.SmallOf v v0 v1 W);rw [hs] at HS;have HA':=Lib.hid (fun W=>words.AtomOf v v0 v1 W);rw [ha] at HA';have hb0:Below w.heap.size w (w.alloc (.cells zC 38)):=belowA (Below.refl _ w) _;have hsz:(w.alloc (.cells zC 38)).heap.size = w.heap.size + 1:=World.size_alloc _ _;have HO:=Lib.hid (objQ2 h hY hb0 v0 v1 hp);rw [hk,hw] at HO;have HZ:=Lib.hid (heap_alloc_new w (.cells zC 38));have HB:=Lib.hid hb0;have HSZ:=Lib.hid hsz;have HQ0:=Lib.hid h;have HT:=Lib.hid hT;have HTm:=Lib.hid (fun W=>term156 s n hB W);have HM:=Lib.hid hm;clear h hs ha hp hk hw hb0 hsz v0 v1 hB hT
 unfold Get0;go_enter Tryz.func86,Tryz.ntmps86;go_wp2_with fail;refine (HS.out _).mono ?_;rintro e w1 ⟨rfl,rfl⟩;go_wp2_with fail;refine (HA'.out _).mono ?_;rintro e w1 ⟨rfl,rfl⟩;go_wp2_with fail;refine HO.out.mono ?_;rintro e w1 ⟨u,rfl,hr,hb⟩;have HR:=Lib.hid hr;obtain ⟨p,k,e,hk1,hk2⟩:=hr.shape;rw [hlw] at e hk1;rw [e] at hr HR;obtain ⟨g,o,rfl,hml,hg,hc⟩:=hr.nth (by rw [hlw];exact hm);subst e;have HTx:=Lib.hid (HT.out w1 _ _ (HB.out.trans (hb.mono HB.out.size)) HR.out (HB.out.trans (hb.mono HB.out.size)).size);have HZ1:=Lib.hid ((hb.block w.heap.size (by have:=HSZ.out;omega)).trans HZ.out)
 have HB1:=Lib.hid (HB.out.trans (hb.mono HB.out.size));have HG:Hid (g < w.heap.size∧w.heap.size < w1.heap.size):=Lib.hid (by have:=HSZ.out;have:=hb.size;omega);have HFx:Hid (∀ W,Calls Tryz.prog 133 #[.int .i64 8,.slice (some ⟨g,o,none⟩) (m) k] W fun e w'=>e = .returned (.int .i64 ((m:Nat):Int))∧W = w'):=Lib.hid (fun W=>by
  have h:=cl.fixed114 W (some ⟨g,o,none⟩) (m) k 8
  simpa [cl.fxd] using h)
 have hk1':(m) = k∨(((m):Nat):Int) < (k:Int):=by
  have:(m) ≤ k:=hk1;omega
 clear hml hr hc hb hk1 hk2 HO HZ hlw hm;rcases hk1' with rfl | hk1'
 all_goals
  go_wp2_with fail;refine (HFx.out _).mono ?_;rintro e w2 ⟨rfl,rfl⟩;go_wp2_with fail;refine wp_loop_rounds 1 ?_;rw [rounds_succ];go_wp2_with fail;refine (HTx.out).mono ?_;rintro e w2 ⟨rfl,hb2⟩;go_wp2_with fail;refine (HTm.out _).mono ?_;rintro e w3 ⟨rfl,hb3⟩;have hb4:=hb2.trans (hb3.mono hb2.size);have HZ2:=Lib.hid ((hb4.block w.heap.size (Array.getElem?_eq_some_iff.1 HZ1.out).1).trans HZ1.out);have HB2:=Lib.hid (HB1.out.trans (hb4.mono HB1.out.size));clear hb2 hb3 hb4
  go_wp2_with (refine wpList_store_row rfl 38 (.tmp 4) (.tmp 184) rfl w.heap.size (C9f ⟨10,0,0,e0,e0,0,s,n⟩ nilV) rfl rfl 38 zC HZ2.out i38 rfl (nine1 _ rfl) ?_)
  go_wp2_with fail;refine bodyPost_ret (v:=aggV ⟨10,0,0,e0,e0,0,s,n⟩ nilV) (ret_row rfl _ rfl (cs:=encR (⟨10,0,0,e0,e0,0,s,n⟩,nilV)) rfl (range_blk (setRow_heap _ _ _ _ _ _ HZ2.out))) rfl ⟨rfl,below_setRow HB2.out (Nat.le_refl _) _⟩
theorem get_x4 (h:HQ w B z a b c σ S) (hY:σ.Y.length ≤ 100000) (hN:σ.N.length ≤ 500000) {v:Int} (v0:0 ≤ v) (v1:v ≤ 18446744073709551615) (hs:soOk v = false) (ha:aoOk v = false) {x:List Int} (hp:cl.Pt (Kb σ) v x) (hk:cl.knd x = 4) {k0 k1 k2:Int} (hw:cl.wds x = [k0,k1,k2]) (W0:0 ≤ k0∧k0 ≤ 18446744073709551615) (W1:0 ≤ k1∧k1 ≤ 18446744073709551615) (W2:0 ≤ k2∧k2 ≤ 18446744073709551615) :
 Calls Tryz.prog 86 #[.pointer (some ⟨z,0,none⟩),.int .u64 v] w (Get0 ⟨6,soN k2,soN k1,nameO σ k0,e0,0,e0,0⟩ w):=by
 have HS:=Lib.hid (fun W=>words.SmallOf v v0 v1 W);rw [hs] at HS;have HA':=Lib.hid (fun W=>words.AtomOf v v0 v1 W);rw [ha] at HA';have hb0:Below w.heap.size w (w.alloc (.cells zC 38)):=belowA (Below.refl _ w) _;have hsz:(w.alloc (.cells zC 38)).heap.size = w.heap.size + 1:=World.size_alloc _ _;have HO:=Lib.hid (objQ2 h hY hb0 v0 v1 hp);rw [hk,hw] at HO;have HZ:=Lib.hid (heap_alloc_new w (.cells zC 38));have HB:=Lib.hid hb0;have HSZ:=Lib.hid hsz;have HQ0:=Lib.hid h;have HN0:=Lib.hid (fun W (hb:Below w.heap.size w W)=>name154 (h.below hb) hN k0 W0.1 W0.2)
 have m1:NumIs k1 (soN k1):=⟨W1.1,W1.2,rfl⟩;generalize soN k1 = n1 at *;have m2:NumIs k2 (soN k2):=⟨W2.1,W2.2,rfl⟩;generalize soN k2 = n2 at *;generalize nameO σ k0 = nm0 at *;clear h hs ha hp hk hw hb0 hsz v0 v1 W0 W1 W2;unfold Get0;go_enter Tryz.func86,Tryz.ntmps86;go_wp2_with fail;refine (HS.out _).mono ?_;rintro e w1 ⟨rfl,rfl⟩;go_wp2_with fail;refine (HA'.out _).mono ?_;rintro e w1 ⟨rfl,rfl⟩;go_wp2_with fail;refine HO.out.mono ?_;rintro e w1 ⟨u,rfl,hr,hb⟩;have HR:=Lib.hid hr;obtain ⟨p,k,e,hk1,hk2⟩:=hr.shape;rw [e] at hr HR;obtain ⟨g,o,rfl,hml,hg,hc⟩:=hr.nth (by simp);subst e
 have r0:w1.cell? ⟨g,o,none⟩ = some (.int .u64 k0):=by simpa using hc 0 k0 rfl 0 _ rfl
 have r1:w1.cell? ⟨g,o + 1,none⟩ = some (.int .u64 k1):=by simpa using hc 1 k1 rfl 0 _ rfl
 have r2:w1.cell? ⟨g,o + 2,none⟩ = some (.int .u64 k2):=by simpa using hc 2 k2 rfl 0 _ rfl
 have HZ1:=Lib.hid ((hb.block w.heap.size (by have:=HSZ.out;omega)).trans HZ.out);have HB1:=Lib.hid (HB.out.trans (hb.mono HB.out.size));have HG:Hid (g < w.heap.size∧w.heap.size < w1.heap.size):=Lib.hid (by have:=HSZ.out;have:=hb.size;omega);have HFx:Hid (∀ W,Calls Tryz.prog 133 #[.int .i64 4,.slice (some ⟨g,o,none⟩) (3) k] W fun e w'=>e = .returned (.int .i64 ((3:Nat):Int))∧W = w'):=Lib.hid (fun W=>by
  have h:=cl.fixed114 W (some ⟨g,o,none⟩) (3) k 4
  simpa [cl.fxd] using h)
 have hk1':(3) = k∨(((3):Nat):Int) < (k:Int):=by
  have:(3) ≤ k:=by simpa using hk1
  omega
 clear hml hr hc hb hk1 hk2 HO HZ
 rcases hk1' with rfl | hk1'
 ·go_wp2_with fail;refine (HFx.out _).mono ?_;rintro e w2 ⟨rfl,rfl⟩;go_wp2_with fail;refine wp_loop_rounds 1 ?_;rw [rounds_succ];go_wp2_with fail;have HZd:w1.drew.heap[w.heap.size]? = some (.cells zC 38):=HZ1.out;have HBd:=Lib.hid (belowD HB1.out);have r0':w1.drew.cell? ⟨g,o,none⟩ = some (.int .u64 k0):=r0;have r1':w1.drew.cell? ⟨g,o + 1,none⟩ = some (.int .u64 k1):=r1;have r2':w1.drew.cell? ⟨g,o + 2,none⟩ = some (.int .u64 k2):=r2
  have HSet:Hid (∀ q c,(w1.drew.setRow w.heap.size c).cell? ⟨g,q,none⟩ = w1.drew.cell? ⟨g,q,none⟩):=Lib.hid (fun q c=>World.cell?_of_block (w:=w1.drew) (a:=⟨g,q,none⟩) (setRow_other _ _ _ _ (show g ≠ w.heap.size by have:=HG.out;omega)));clear r0 r1 r2;refine wp_region_held_drew (S:=fun W=>W.cell? ⟨g,o,none⟩ = some (.int .u64 k0)∧W.cell? ⟨g,o + 1,none⟩ = some (.int .u64 k1)∧W.cell? ⟨g,o + 2,none⟩ = some (.int .u64 k2)) (by kernel_rfl) ⟨r0',r1',r2'⟩ (fun hHeld=>?_)
  refine wpAnyH_take (i:=0) (oi:={ dst:=some 143,op:=Op.move (Operand.tmp 0),type:=34,pos := "heap.go:246",after:=#[],guard:=none }) (v:=?vvA0) rfl (by kernel_rfl) (by kernel_rfl) (by kernel_rfl) (fun _ _ _ h=>h) (Or.inl ⟨by rfl,?hyA0⟩) (by assumption) ?rsA0;case hyA0 =>
   intro w hSw;(try dsimp only at hSw)
   go_simp;(try with_reducible rfl)
  (try simp only [Act.put,List.setIfInBounds_toArray,List.set_cons_zero,List.set_cons_succ])
  refine wpAnyH_take (i:=1) (oi:={ dst:=some 144,op:=Op.move (Operand.tmp 10),type:=22,pos := "heap.go:246",after:=#[],guard:=none }) (v:=?vvA1) rfl (by kernel_rfl) (by kernel_rfl) (by kernel_rfl) (fun _ _ _ h=>h) (Or.inl ⟨by rfl,?hyA1⟩) (by assumption) ?rsA1;case hyA1 =>
   intro w hSw;(try dsimp only at hSw)
   go_simp;(try with_reducible rfl)
  (try simp only [Act.put,List.setIfInBounds_toArray,List.set_cons_zero,List.set_cons_succ])
  refine wpAnyH_take (i:=2) (oi:={ dst:=some 145,op:=Op.indexAddr 22 (Operand.tmp 144) (Operand.const (Value.int IntKind.i64 0)),type:=0,pos := "heap.go:246",after:=#[{ on:=1,ground:=Ground.data }],guard:=none }) (v:=?vvA2) rfl (by kernel_rfl) (by kernel_rfl) (by kernel_rfl) (fun _ _ _ h=>h) (Or.inl ⟨by rfl,?hyA2⟩) (by assumption) ?rsA2;case hyA2 =>
   intro w hSw;(try dsimp only at hSw)
   go_simp;(try with_reducible rfl)
  (try simp only [Act.put,List.setIfInBounds_toArray,List.set_cons_zero,List.set_cons_succ])
  refine wpAnyH_take (i:=3) (oi:={ dst:=some 146,op:=Op.load 40 (Operand.tmp 145),type:=40,pos := "heap.go:246",after:=#[{ on:=2,ground:=Ground.data }],guard:=none }) (v:=?vvA3) rfl (by kernel_rfl) (by kernel_rfl) (by kernel_rfl) (fun _ _ _ h=>h) (Or.inl ⟨by rfl,?hyA3⟩) (by assumption) ?rsA3;case hyA3 =>
   intro w hSw;(try dsimp only at hSw)
   go_simp;(try with_reducible rfl)
  (try simp only [Act.put,List.setIfInBounds_toArray,List.set_cons_zero,List.set_cons_succ])
  refine wpAnyH_take (i:=5) (oi:={ dst:=some 148,op:=Op.move (Operand.tmp 10),type:=22,pos := "heap.go:246",after:=#[],guard:=none }) (v:=?vvA5) rfl (by kernel_rfl) (by kernel_rfl) (by kernel_rfl) (fun _ _ _ h=>h) (Or.inl ⟨by rfl,?hyA5⟩) (by assumption) ?rsA5;case hyA5 =>
   intro w hSw;(try dsimp only at hSw)
   go_simp;(try with_reducible rfl)
  (try simp only [Act.put,List.setIfInBounds_toArray,List.set_cons_zero,List.set_cons_succ])
  refine wpAnyH_take (i:=6) (oi:={ dst:=some 149,op:=Op.indexAddr 22 (Operand.tmp 148) (Operand.const (Value.int IntKind.i64 1)),type:=0,pos := "heap.go:246",after:=#[{ on:=5,ground:=Ground.data }],guard:=none }) (v:=?vvA6) rfl (by kernel_rfl) (by kernel_rfl) (by kernel_rfl) (fun _ _ _ h=>h) (Or.inl ⟨by rfl,?hyA6⟩) (by assumption) ?rsA6;case hyA6 =>
   intro w hSw;(try dsimp only at hSw)
   go_simp;(try with_reducible rfl)
  (try simp only [Act.put,List.setIfInBounds_toArray,List.set_cons_zero,List.set_cons_succ])
  refine wpAnyH_take (i:=7) (oi:={ dst:=some 150,op:=Op.load 40 (Operand.tmp 149),type:=40,pos := "heap.go:246",after:=#[{ on:=6,ground:=Ground.data }],guard:=none }) (v:=?vvA7) rfl (by kernel_rfl) (by kernel_rfl) (by kernel_rfl) (fun _ _ _ h=>h) (Or.inl ⟨by rfl,?hyA7⟩) (by assumption) ?rsA7;case hyA7 =>
   intro w hSw;(try dsimp only at hSw)
   go_simp;(try with_reducible rfl)
  (try simp only [Act.put,List.setIfInBounds_toArray,List.set_cons_zero,List.set_cons_succ])
  refine wpAnyH_take (i:=9) (oi:={ dst:=some 152,op:=Op.move (Operand.tmp 10),type:=22,pos := "heap.go:246",after:=#[],guard:=none }) (v:=?vvA9) rfl (by kernel_rfl) (by kernel_rfl) (by kernel_rfl) (fun _ _ _ h=>h) (Or.inl ⟨by rfl,?hyA9⟩) (by assumption) ?rsA9;case hyA9 =>
   intro w hSw;(try dsimp only at hSw)
   go_simp;(try with_reducible rfl)
  (try simp only [Act.put,List.setIfInBounds_toArray,List.set_cons_zero,List.set_cons_succ])
  refine wpAnyH_take (i:=10) (oi:={ dst:=some 153,op:=Op.indexAddr 22 (Operand.tmp 152) (Operand.const (Value.int IntKind.i64 2)),type:=0,pos := "heap.go:246",after:=#[{ on:=9,ground:=Ground.data }],guard:=none }) (v:=?vvA10) rfl (by kernel_rfl) (by kernel_rfl) (by kernel_rfl) (fun _ _ _ h=>h) (Or.inl ⟨by rfl,?hyA10⟩) (by assumption) ?rsA10;case hyA10 =>
   intro w hSw;(try dsimp only at hSw)
   go_simp;(try with_reducible rfl)
  (try simp only [Act.put,List.setIfInBounds_toArray,List.set_cons_zero,List.set_cons_succ])
  refine wpAnyH_take (i:=11) (oi:={ dst:=some 154,op:=Op.load 40 (Operand.tmp 153),type:=40,pos := "heap.go:246",after:=#[{ on:=10,ground:=Ground.data }],guard:=none }) (v:=?vvA11) rfl (by kernel_rfl) (by kernel_rfl) (by kernel_rfl) (fun _ _ _ h=>h) (Or.inl ⟨by rfl,?hyA11⟩) (by assumption) ?rsA11;case hyA11 =>
   intro w hSw;(try dsimp only at hSw)
   go_simp;(try with_reducible rfl)
  (try simp only [Act.put,List.setIfInBounds_toArray,List.set_cons_zero,List.set_cons_succ])
  refine wpAnyH_ready (rs:=[4]) (by kernel_rfl) (by simp) ?_;refine (AllReadyH.cons (o:={ dst:=some 147,op:=Op.call { callee:=Callee.value (Operand.func 154),args:=#[Operand.tmp 143,Operand.tmp 146],argTypes:=#[34,40] },type:=9,pos := "heap.go:246",after:=#[{ on:=0,ground:=Ground.data },{ on:=3,ground:=Ground.data }],guard:=none }) rfl (fun K hK=>?_) AllReadyH.nil);go_simp;refine (HN0.out _ HBd.out).mono ?_;rintro e w2 ⟨rfl,rfl⟩;go_wp2_with fail
  refine hK.out _ _ ?_ (fun hHeld=>?_)
  ·first | exact ⟨r0',r1',r2'⟩ | exact ⟨(HSet.out _ _).trans r0',(HSet.out _ _).trans r1',(HSet.out _ _).trans r2'⟩
  clear hK K;(try simp only [Act.put,List.setIfInBounds_toArray,List.set_cons_zero,List.set_cons_succ])
  refine wpAnyH_ready (rs:=[8]) (by kernel_rfl) (by simp) ?_;refine (AllReadyH.cons (o:={ dst:=some 151,op:=Op.call { callee:=Callee.value (Operand.func 77),args:=#[Operand.tmp 150],argTypes:=#[40] },type:=2,pos := "heap.go:246",after:=#[{ on:=7,ground:=Ground.data },{ on:=4,ground:=Ground.chain }],guard:=none }) rfl (fun K hK=>?_) AllReadyH.nil);go_simp;refine (num77i _ _ (by assumption) _).mono ?_;rintro e w2 ⟨rfl,rfl⟩;go_wp2_with fail
  refine hK.out _ _ ?_ (fun hHeld=>?_)
  ·first | exact ⟨r0',r1',r2'⟩ | exact ⟨(HSet.out _ _).trans r0',(HSet.out _ _).trans r1',(HSet.out _ _).trans r2'⟩
  clear hK K;(try simp only [Act.put,List.setIfInBounds_toArray,List.set_cons_zero,List.set_cons_succ])
  refine wpAnyH_ready (rs:=[12]) (by kernel_rfl) (by simp) ?_;refine (AllReadyH.cons (o:={ dst:=some 155,op:=Op.call { callee:=Callee.value (Operand.func 77),args:=#[Operand.tmp 154],argTypes:=#[40] },type:=2,pos := "heap.go:246",after:=#[{ on:=11,ground:=Ground.data },{ on:=8,ground:=Ground.chain }],guard:=none }) rfl (fun K hK=>?_) AllReadyH.nil);go_simp;refine (num77i _ _ (by assumption) _).mono ?_;rintro e w2 ⟨rfl,rfl⟩;go_wp2_with fail
  refine hK.out _ _ ?_ (fun hHeld=>?_)
  ·first | exact ⟨r0',r1',r2'⟩ | exact ⟨(HSet.out _ _).trans r0',(HSet.out _ _).trans r1',(HSet.out _ _).trans r2'⟩
  clear hK K;(try simp only [Act.put,List.setIfInBounds_toArray,List.set_cons_zero,List.set_cons_succ])
  refine wpAnyH_take (i:=13) (oi:={ dst:=some 156,op:=Op.build 38 #[(0,Operand.const (Value.int IntKind.i64 6)),(3,Operand.tmp 147),(2,Operand.tmp 151),(1,Operand.tmp 155)],type:=38,pos := "heap.go:246",after:=#[{ on:=4,ground:=Ground.data },{ on:=8,ground:=Ground.data },{ on:=12,ground:=Ground.data }],guard:=none }) (v:=?vvA13) rfl (by kernel_rfl) (by kernel_rfl) (by kernel_rfl) (fun _ _ _ h=>h) (Or.inl ⟨by rfl,?hyA13⟩) (by assumption) ?rsA13;case hyA13 =>
   intro w hSw;(try dsimp only at hSw)
   go_simp;(try with_reducible rfl)
  (try simp only [Act.put,List.setIfInBounds_toArray,List.set_cons_zero,List.set_cons_succ])
  refine wpAnyH_ready (rs:=[14]) (by kernel_rfl) (by simp) ?_
  refine (AllReadyH.cons (o:={ dst:=none,op:=Op.store 38 (Operand.tmp 4) (Operand.tmp 156),type:=0,pos := "heap.go:246",after:=#[{ on:=13,ground:=Ground.data },{ on:=12,ground:=Ground.chain },{ on:=0,ground:=Ground.phase },{ on:=1,ground:=Ground.phase },{ on:=2,ground:=Ground.phase },{ on:=3,ground:=Ground.phase },{ on:=4,ground:=Ground.phase },{ on:=5,ground:=Ground.phase },{ on:=6,ground:=Ground.phase },{ on:=7,ground:=Ground.phase },{ on:=8,ground:=Ground.phase },{ on:=9,ground:=Ground.phase },{ on:=10,ground:=Ground.phase },{ on:=11,ground:=Ground.phase },{ on:=12,ground:=Ground.phase },{ on:=13,ground:=Ground.phase }],guard:=none }) rfl (fun K hK=>?_) AllReadyH.nil)
  rw [if_pos (by rfl)];refine wp_store_row 38 (.tmp 4) (.tmp 156) rfl w.heap.size (C9f ⟨6,n2,n1,nm0,e0,0,e0,0⟩ nilV) rfl rfl 38 zC HZd i38 rfl (nine1 _ rfl) ?_
  refine hK.out _ _ ?_ (fun hHeld=>?_)
  ·first | exact ⟨r0',r1',r2'⟩ | exact ⟨(HSet.out _ _).trans r0',(HSet.out _ _).trans r1',(HSet.out _ _).trans r2'⟩
  clear hK K;(try simp only [Act.put,List.setIfInBounds_toArray,List.set_cons_zero,List.set_cons_succ])
  refine wpAnyH_done (by kernel_rfl) ?_ _;go_wp2_with fail;refine bodyPost_ret (v:=aggV ⟨6,n2,n1,nm0,e0,0,e0,0⟩ nilV) (ret_row rfl _ rfl (cs:=encR (⟨6,n2,n1,nm0,e0,0,e0,0⟩,nilV)) rfl (range_blk (setRow_heap _ _ _ _ _ _ HZd))) rfl ⟨rfl,below_setRow HBd.out (Nat.le_refl _) _⟩
 ·go_wp2_with fail;refine (HFx.out _).mono ?_;rintro e w2 ⟨rfl,rfl⟩;go_wp2_with fail;refine wp_loop_rounds 1 ?_;rw [rounds_succ];go_wp2_with fail;have HZd:w1.drew.heap[w.heap.size]? = some (.cells zC 38):=HZ1.out;have HBd:=Lib.hid (belowD HB1.out);have r0':w1.drew.cell? ⟨g,o,none⟩ = some (.int .u64 k0):=r0;have r1':w1.drew.cell? ⟨g,o + 1,none⟩ = some (.int .u64 k1):=r1;have r2':w1.drew.cell? ⟨g,o + 2,none⟩ = some (.int .u64 k2):=r2
  have HSet:Hid (∀ q c,(w1.drew.setRow w.heap.size c).cell? ⟨g,q,none⟩ = w1.drew.cell? ⟨g,q,none⟩):=Lib.hid (fun q c=>World.cell?_of_block (w:=w1.drew) (a:=⟨g,q,none⟩) (setRow_other _ _ _ _ (show g ≠ w.heap.size by have:=HG.out;omega)));clear r0 r1 r2;refine wp_region_held_drew (S:=fun W=>W.cell? ⟨g,o,none⟩ = some (.int .u64 k0)∧W.cell? ⟨g,o + 1,none⟩ = some (.int .u64 k1)∧W.cell? ⟨g,o + 2,none⟩ = some (.int .u64 k2)) (by kernel_rfl) ⟨r0',r1',r2'⟩ (fun hHeld=>?_)
  refine wpAnyH_take (i:=0) (oi:={ dst:=some 143,op:=Op.move (Operand.tmp 0),type:=34,pos := "heap.go:246",after:=#[],guard:=none }) (v:=?vvB0) rfl (by kernel_rfl) (by kernel_rfl) (by kernel_rfl) (fun _ _ _ h=>h) (Or.inl ⟨by rfl,?hyB0⟩) (by assumption) ?rsB0;case hyB0 =>
   intro w hSw;(try dsimp only at hSw)
   go_simp;(try with_reducible rfl)
  (try simp only [Act.put,List.setIfInBounds_toArray,List.set_cons_zero,List.set_cons_succ])
  refine wpAnyH_take (i:=1) (oi:={ dst:=some 144,op:=Op.move (Operand.tmp 10),type:=22,pos := "heap.go:246",after:=#[],guard:=none }) (v:=?vvB1) rfl (by kernel_rfl) (by kernel_rfl) (by kernel_rfl) (fun _ _ _ h=>h) (Or.inl ⟨by rfl,?hyB1⟩) (by assumption) ?rsB1;case hyB1 =>
   intro w hSw;(try dsimp only at hSw)
   go_simp;(try with_reducible rfl)
  (try simp only [Act.put,List.setIfInBounds_toArray,List.set_cons_zero,List.set_cons_succ])
  refine wpAnyH_take (i:=2) (oi:={ dst:=some 145,op:=Op.indexAddr 22 (Operand.tmp 144) (Operand.const (Value.int IntKind.i64 0)),type:=0,pos := "heap.go:246",after:=#[{ on:=1,ground:=Ground.data }],guard:=none }) (v:=?vvB2) rfl (by kernel_rfl) (by kernel_rfl) (by kernel_rfl) (fun _ _ _ h=>h) (Or.inl ⟨by rfl,?hyB2⟩) (by assumption) ?rsB2;case hyB2 =>
   intro w hSw;(try dsimp only at hSw)
   go_simp;(try with_reducible rfl)
  (try simp only [Act.put,List.setIfInBounds_toArray,List.set_cons_zero,List.set_cons_succ])
  refine wpAnyH_take (i:=3) (oi:={ dst:=some 146,op:=Op.load 40 (Operand.tmp 145),type:=40,pos := "heap.go:246",after:=#[{ on:=2,ground:=Ground.data }],guard:=none }) (v:=?vvB3) rfl (by kernel_rfl) (by kernel_rfl) (by kernel_rfl) (fun _ _ _ h=>h) (Or.inl ⟨by rfl,?hyB3⟩) (by assumption) ?rsB3;case hyB3 =>
   intro w hSw;(try dsimp only at hSw)
   go_simp;(try with_reducible rfl)
  (try simp only [Act.put,List.setIfInBounds_toArray,List.set_cons_zero,List.set_cons_succ])
  refine wpAnyH_take (i:=5) (oi:={ dst:=some 148,op:=Op.move (Operand.tmp 10),type:=22,pos := "heap.go:246",after:=#[],guard:=none }) (v:=?vvB5) rfl (by kernel_rfl) (by kernel_rfl) (by kernel_rfl) (fun _ _ _ h=>h) (Or.inl ⟨by rfl,?hyB5⟩) (by assumption) ?rsB5;case hyB5 =>
   intro w hSw;(try dsimp only at hSw)
   go_simp;(try with_reducible rfl)
  (try simp only [Act.put,List.setIfInBounds_toArray,List.set_cons_zero,List.set_cons_succ])
  refine wpAnyH_take (i:=6) (oi:={ dst:=some 149,op:=Op.indexAddr 22 (Operand.tmp 148) (Operand.const (Value.int IntKind.i64 1)),type:=0,pos := "heap.go:246",after:=#[{ on:=5,ground:=Ground.data }],guard:=none }) (v:=?vvB6) rfl (by kernel_rfl) (by kernel_rfl) (by kernel_rfl) (fun _ _ _ h=>h) (Or.inl ⟨by rfl,?hyB6⟩) (by assumption) ?rsB6;case hyB6 =>
   intro w hSw;(try dsimp only at hSw)
   go_simp;(try with_reducible rfl)
  (try simp only [Act.put,List.setIfInBounds_toArray,List.set_cons_zero,List.set_cons_succ])
  refine wpAnyH_take (i:=7) (oi:={ dst:=some 150,op:=Op.load 40 (Operand.tmp 149),type:=40,pos := "heap.go:246",after:=#[{ on:=6,ground:=Ground.data }],guard:=none }) (v:=?vvB7) rfl (by kernel_rfl) (by kernel_rfl) (by kernel_rfl) (fun _ _ _ h=>h) (Or.inl ⟨by rfl,?hyB7⟩) (by assumption) ?rsB7;case hyB7 =>
   intro w hSw;(try dsimp only at hSw)
   go_simp;(try with_reducible rfl)
  (try simp only [Act.put,List.setIfInBounds_toArray,List.set_cons_zero,List.set_cons_succ])
  refine wpAnyH_take (i:=9) (oi:={ dst:=some 152,op:=Op.move (Operand.tmp 10),type:=22,pos := "heap.go:246",after:=#[],guard:=none }) (v:=?vvB9) rfl (by kernel_rfl) (by kernel_rfl) (by kernel_rfl) (fun _ _ _ h=>h) (Or.inl ⟨by rfl,?hyB9⟩) (by assumption) ?rsB9;case hyB9 =>
   intro w hSw;(try dsimp only at hSw)
   go_simp;(try with_reducible rfl)
  (try simp only [Act.put,List.setIfInBounds_toArray,List.set_cons_zero,List.set_cons_succ])
  refine wpAnyH_take (i:=10) (oi:={ dst:=some 153,op:=Op.indexAddr 22 (Operand.tmp 152) (Operand.const (Value.int IntKind.i64 2)),type:=0,pos := "heap.go:246",after:=#[{ on:=9,ground:=Ground.data }],guard:=none }) (v:=?vvB10) rfl (by kernel_rfl) (by kernel_rfl) (by kernel_rfl) (fun _ _ _ h=>h) (Or.inl ⟨by rfl,?hyB10⟩) (by assumption) ?rsB10;case hyB10 =>
   intro w hSw;(try dsimp only at hSw)
   go_simp;(try with_reducible rfl)
  (try simp only [Act.put,List.setIfInBounds_toArray,List.set_cons_zero,List.set_cons_succ])
  refine wpAnyH_take (i:=11) (oi:={ dst:=some 154,op:=Op.load 40 (Operand.tmp 153),type:=40,pos := "heap.go:246",after:=#[{ on:=10,ground:=Ground.data }],guard:=none }) (v:=?vvB11) rfl (by kernel_rfl) (by kernel_rfl) (by kernel_rfl) (fun _ _ _ h=>h) (Or.inl ⟨by rfl,?hyB11⟩) (by assumption) ?rsB11;case hyB11 =>
   intro w hSw;(try dsimp only at hSw)
   go_simp;(try with_reducible rfl)
  (try simp only [Act.put,List.setIfInBounds_toArray,List.set_cons_zero,List.set_cons_succ])
  refine wpAnyH_ready (rs:=[4]) (by kernel_rfl) (by simp) ?_;refine (AllReadyH.cons (o:={ dst:=some 147,op:=Op.call { callee:=Callee.value (Operand.func 154),args:=#[Operand.tmp 143,Operand.tmp 146],argTypes:=#[34,40] },type:=9,pos := "heap.go:246",after:=#[{ on:=0,ground:=Ground.data },{ on:=3,ground:=Ground.data }],guard:=none }) rfl (fun K hK=>?_) AllReadyH.nil);go_simp;refine (HN0.out _ HBd.out).mono ?_;rintro e w2 ⟨rfl,rfl⟩;go_wp2_with fail
  refine hK.out _ _ ?_ (fun hHeld=>?_)
  ·first | exact ⟨r0',r1',r2'⟩ | exact ⟨(HSet.out _ _).trans r0',(HSet.out _ _).trans r1',(HSet.out _ _).trans r2'⟩
  clear hK K;(try simp only [Act.put,List.setIfInBounds_toArray,List.set_cons_zero,List.set_cons_succ])
  refine wpAnyH_ready (rs:=[8]) (by kernel_rfl) (by simp) ?_;refine (AllReadyH.cons (o:={ dst:=some 151,op:=Op.call { callee:=Callee.value (Operand.func 77),args:=#[Operand.tmp 150],argTypes:=#[40] },type:=2,pos := "heap.go:246",after:=#[{ on:=7,ground:=Ground.data },{ on:=4,ground:=Ground.chain }],guard:=none }) rfl (fun K hK=>?_) AllReadyH.nil);go_simp;refine (num77i _ _ (by assumption) _).mono ?_;rintro e w2 ⟨rfl,rfl⟩;go_wp2_with fail
  refine hK.out _ _ ?_ (fun hHeld=>?_)
  ·first | exact ⟨r0',r1',r2'⟩ | exact ⟨(HSet.out _ _).trans r0',(HSet.out _ _).trans r1',(HSet.out _ _).trans r2'⟩
  clear hK K;(try simp only [Act.put,List.setIfInBounds_toArray,List.set_cons_zero,List.set_cons_succ])
  refine wpAnyH_ready (rs:=[12]) (by kernel_rfl) (by simp) ?_;refine (AllReadyH.cons (o:={ dst:=some 155,op:=Op.call { callee:=Callee.value (Operand.func 77),args:=#[Operand.tmp 154],argTypes:=#[40] },type:=2,pos := "heap.go:246",after:=#[{ on:=11,ground:=Ground.data },{ on:=8,ground:=Ground.chain }],guard:=none }) rfl (fun K hK=>?_) AllReadyH.nil);go_simp;refine (num77i _ _ (by assumption) _).mono ?_;rintro e w2 ⟨rfl,rfl⟩;go_wp2_with fail
  refine hK.out _ _ ?_ (fun hHeld=>?_)
  ·first | exact ⟨r0',r1',r2'⟩ | exact ⟨(HSet.out _ _).trans r0',(HSet.out _ _).trans r1',(HSet.out _ _).trans r2'⟩
  clear hK K;(try simp only [Act.put,List.setIfInBounds_toArray,List.set_cons_zero,List.set_cons_succ])
  refine wpAnyH_take (i:=13) (oi:={ dst:=some 156,op:=Op.build 38 #[(0,Operand.const (Value.int IntKind.i64 6)),(3,Operand.tmp 147),(2,Operand.tmp 151),(1,Operand.tmp 155)],type:=38,pos := "heap.go:246",after:=#[{ on:=4,ground:=Ground.data },{ on:=8,ground:=Ground.data },{ on:=12,ground:=Ground.data }],guard:=none }) (v:=?vvB13) rfl (by kernel_rfl) (by kernel_rfl) (by kernel_rfl) (fun _ _ _ h=>h) (Or.inl ⟨by rfl,?hyB13⟩) (by assumption) ?rsB13;case hyB13 =>
   intro w hSw;(try dsimp only at hSw)
   go_simp;(try with_reducible rfl)
  (try simp only [Act.put,List.setIfInBounds_toArray,List.set_cons_zero,List.set_cons_succ])
  refine wpAnyH_ready (rs:=[14]) (by kernel_rfl) (by simp) ?_
  refine (AllReadyH.cons (o:={ dst:=none,op:=Op.store 38 (Operand.tmp 4) (Operand.tmp 156),type:=0,pos := "heap.go:246",after:=#[{ on:=13,ground:=Ground.data },{ on:=12,ground:=Ground.chain },{ on:=0,ground:=Ground.phase },{ on:=1,ground:=Ground.phase },{ on:=2,ground:=Ground.phase },{ on:=3,ground:=Ground.phase },{ on:=4,ground:=Ground.phase },{ on:=5,ground:=Ground.phase },{ on:=6,ground:=Ground.phase },{ on:=7,ground:=Ground.phase },{ on:=8,ground:=Ground.phase },{ on:=9,ground:=Ground.phase },{ on:=10,ground:=Ground.phase },{ on:=11,ground:=Ground.phase },{ on:=12,ground:=Ground.phase },{ on:=13,ground:=Ground.phase }],guard:=none }) rfl (fun K hK=>?_) AllReadyH.nil)
  rw [if_pos (by rfl)];refine wp_store_row 38 (.tmp 4) (.tmp 156) rfl w.heap.size (C9f ⟨6,n2,n1,nm0,e0,0,e0,0⟩ nilV) rfl rfl 38 zC HZd i38 rfl (nine1 _ rfl) ?_
  refine hK.out _ _ ?_ (fun hHeld=>?_)
  ·first | exact ⟨r0',r1',r2'⟩ | exact ⟨(HSet.out _ _).trans r0',(HSet.out _ _).trans r1',(HSet.out _ _).trans r2'⟩
  clear hK K;(try simp only [Act.put,List.setIfInBounds_toArray,List.set_cons_zero,List.set_cons_succ])
  refine wpAnyH_done (by kernel_rfl) ?_ _;go_wp2_with fail;refine bodyPost_ret (v:=aggV ⟨6,n2,n1,nm0,e0,0,e0,0⟩ nilV) (ret_row rfl _ rfl (cs:=encR (⟨6,n2,n1,nm0,e0,0,e0,0⟩,nilV)) rfl (range_blk (setRow_heap _ _ _ _ _ _ HZd))) rfl ⟨rfl,below_setRow HBd.out (Nat.le_refl _) _⟩
theorem get_x5 (h:HQ w B z a b c σ S) (hY:σ.Y.length ≤ 100000) (hN:σ.N.length ≤ 500000) {v:Int} (v0:0 ≤ v) (v1:v ≤ 18446744073709551615) (hs:soOk v = false) (ha:aoOk v = false) {x:List Int} (hp:cl.Pt (Kb σ) v x) (hk:cl.knd x = 5) {k0 k1 k2:Int} (hw:cl.wds x = [k0,k1,k2]) (W0:0 ≤ k0∧k0 ≤ 18446744073709551615) (W1:0 ≤ k1∧k1 ≤ 18446744073709551615) (W2:0 ≤ k2∧k2 ≤ 18446744073709551615) :
 Calls Tryz.prog 86 #[.pointer (some ⟨z,0,none⟩),.int .u64 v] w (Get0 ⟨3,soN k2,soN k1,nameO σ k0,e0,0,e0,0⟩ w):=by
 have HS:=Lib.hid (fun W=>words.SmallOf v v0 v1 W);rw [hs] at HS;have HA':=Lib.hid (fun W=>words.AtomOf v v0 v1 W);rw [ha] at HA';have hb0:Below w.heap.size w (w.alloc (.cells zC 38)):=belowA (Below.refl _ w) _;have hsz:(w.alloc (.cells zC 38)).heap.size = w.heap.size + 1:=World.size_alloc _ _;have HO:=Lib.hid (objQ2 h hY hb0 v0 v1 hp);rw [hk,hw] at HO;have HZ:=Lib.hid (heap_alloc_new w (.cells zC 38));have HB:=Lib.hid hb0;have HSZ:=Lib.hid hsz;have HQ0:=Lib.hid h;have HN0:=Lib.hid (fun W (hb:Below w.heap.size w W)=>name154 (h.below hb) hN k0 W0.1 W0.2)
 have m1:NumIs k1 (soN k1):=⟨W1.1,W1.2,rfl⟩;generalize soN k1 = n1 at *;have m2:NumIs k2 (soN k2):=⟨W2.1,W2.2,rfl⟩;generalize soN k2 = n2 at *;generalize nameO σ k0 = nm0 at *;clear h hs ha hp hk hw hb0 hsz v0 v1 W0 W1 W2;unfold Get0;go_enter Tryz.func86,Tryz.ntmps86;go_wp2_with fail;refine (HS.out _).mono ?_;rintro e w1 ⟨rfl,rfl⟩;go_wp2_with fail;refine (HA'.out _).mono ?_;rintro e w1 ⟨rfl,rfl⟩;go_wp2_with fail;refine HO.out.mono ?_;rintro e w1 ⟨u,rfl,hr,hb⟩;have HR:=Lib.hid hr;obtain ⟨p,k,e,hk1,hk2⟩:=hr.shape;rw [e] at hr HR;obtain ⟨g,o,rfl,hml,hg,hc⟩:=hr.nth (by simp);subst e
 have r0:w1.cell? ⟨g,o,none⟩ = some (.int .u64 k0):=by simpa using hc 0 k0 rfl 0 _ rfl
 have r1:w1.cell? ⟨g,o + 1,none⟩ = some (.int .u64 k1):=by simpa using hc 1 k1 rfl 0 _ rfl
 have r2:w1.cell? ⟨g,o + 2,none⟩ = some (.int .u64 k2):=by simpa using hc 2 k2 rfl 0 _ rfl
 have HZ1:=Lib.hid ((hb.block w.heap.size (by have:=HSZ.out;omega)).trans HZ.out);have HB1:=Lib.hid (HB.out.trans (hb.mono HB.out.size));have HG:Hid (g < w.heap.size∧w.heap.size < w1.heap.size):=Lib.hid (by have:=HSZ.out;have:=hb.size;omega);have HFx:Hid (∀ W,Calls Tryz.prog 133 #[.int .i64 5,.slice (some ⟨g,o,none⟩) (3) k] W fun e w'=>e = .returned (.int .i64 ((3:Nat):Int))∧W = w'):=Lib.hid (fun W=>by
  have h:=cl.fixed114 W (some ⟨g,o,none⟩) (3) k 5
  simpa [cl.fxd] using h)
 have hk1':(3) = k∨(((3):Nat):Int) < (k:Int):=by
  have:(3) ≤ k:=by simpa using hk1
  omega
 clear hml hr hc hb hk1 hk2 HO HZ
 rcases hk1' with rfl | hk1'
 ·go_wp2_with fail;refine (HFx.out _).mono ?_;rintro e w2 ⟨rfl,rfl⟩;go_wp2_with fail;refine wp_loop_rounds 1 ?_;rw [rounds_succ];go_wp2_with fail;have HZd:w1.drew.heap[w.heap.size]? = some (.cells zC 38):=HZ1.out;have HBd:=Lib.hid (belowD HB1.out);have r0':w1.drew.cell? ⟨g,o,none⟩ = some (.int .u64 k0):=r0;have r1':w1.drew.cell? ⟨g,o + 1,none⟩ = some (.int .u64 k1):=r1;have r2':w1.drew.cell? ⟨g,o + 2,none⟩ = some (.int .u64 k2):=r2
  have HSet:Hid (∀ q c,(w1.drew.setRow w.heap.size c).cell? ⟨g,q,none⟩ = w1.drew.cell? ⟨g,q,none⟩):=Lib.hid (fun q c=>World.cell?_of_block (w:=w1.drew) (a:=⟨g,q,none⟩) (setRow_other _ _ _ _ (show g ≠ w.heap.size by have:=HG.out;omega)));clear r0 r1 r2;refine wp_region_held_drew (S:=fun W=>W.cell? ⟨g,o,none⟩ = some (.int .u64 k0)∧W.cell? ⟨g,o + 1,none⟩ = some (.int .u64 k1)∧W.cell? ⟨g,o + 2,none⟩ = some (.int .u64 k2)) (by kernel_rfl) ⟨r0',r1',r2'⟩ (fun hHeld=>?_)
  refine wpAnyH_take (i:=0) (oi:={ dst:=some 159,op:=Op.move (Operand.tmp 0),type:=34,pos := "heap.go:248",after:=#[],guard:=none }) (v:=?vvA0) rfl (by kernel_rfl) (by kernel_rfl) (by kernel_rfl) (fun _ _ _ h=>h) (Or.inl ⟨by rfl,?hyA0⟩) (by assumption) ?rsA0;case hyA0 =>
   intro w hSw;(try dsimp only at hSw)
   go_simp;(try with_reducible rfl)
  (try simp only [Act.put,List.setIfInBounds_toArray,List.set_cons_zero,List.set_cons_succ])
  refine wpAnyH_take (i:=1) (oi:={ dst:=some 160,op:=Op.move (Operand.tmp 10),type:=22,pos := "heap.go:248",after:=#[],guard:=none }) (v:=?vvA1) rfl (by kernel_rfl) (by kernel_rfl) (by kernel_rfl) (fun _ _ _ h=>h) (Or.inl ⟨by rfl,?hyA1⟩) (by assumption) ?rsA1;case hyA1 =>
   intro w hSw;(try dsimp only at hSw)
   go_simp;(try with_reducible rfl)
  (try simp only [Act.put,List.setIfInBounds_toArray,List.set_cons_zero,List.set_cons_succ])
  refine wpAnyH_take (i:=2) (oi:={ dst:=some 161,op:=Op.indexAddr 22 (Operand.tmp 160) (Operand.const (Value.int IntKind.i64 0)),type:=0,pos := "heap.go:248",after:=#[{ on:=1,ground:=Ground.data }],guard:=none }) (v:=?vvA2) rfl (by kernel_rfl) (by kernel_rfl) (by kernel_rfl) (fun _ _ _ h=>h) (Or.inl ⟨by rfl,?hyA2⟩) (by assumption) ?rsA2;case hyA2 =>
   intro w hSw;(try dsimp only at hSw)
   go_simp;(try with_reducible rfl)
  (try simp only [Act.put,List.setIfInBounds_toArray,List.set_cons_zero,List.set_cons_succ])
  refine wpAnyH_take (i:=3) (oi:={ dst:=some 162,op:=Op.load 40 (Operand.tmp 161),type:=40,pos := "heap.go:248",after:=#[{ on:=2,ground:=Ground.data }],guard:=none }) (v:=?vvA3) rfl (by kernel_rfl) (by kernel_rfl) (by kernel_rfl) (fun _ _ _ h=>h) (Or.inl ⟨by rfl,?hyA3⟩) (by assumption) ?rsA3;case hyA3 =>
   intro w hSw;(try dsimp only at hSw)
   go_simp;(try with_reducible rfl)
  (try simp only [Act.put,List.setIfInBounds_toArray,List.set_cons_zero,List.set_cons_succ])
  refine wpAnyH_take (i:=5) (oi:={ dst:=some 164,op:=Op.move (Operand.tmp 10),type:=22,pos := "heap.go:248",after:=#[],guard:=none }) (v:=?vvA5) rfl (by kernel_rfl) (by kernel_rfl) (by kernel_rfl) (fun _ _ _ h=>h) (Or.inl ⟨by rfl,?hyA5⟩) (by assumption) ?rsA5;case hyA5 =>
   intro w hSw;(try dsimp only at hSw)
   go_simp;(try with_reducible rfl)
  (try simp only [Act.put,List.setIfInBounds_toArray,List.set_cons_zero,List.set_cons_succ])
  refine wpAnyH_take (i:=6) (oi:={ dst:=some 165,op:=Op.indexAddr 22 (Operand.tmp 164) (Operand.const (Value.int IntKind.i64 1)),type:=0,pos := "heap.go:248",after:=#[{ on:=5,ground:=Ground.data }],guard:=none }) (v:=?vvA6) rfl (by kernel_rfl) (by kernel_rfl) (by kernel_rfl) (fun _ _ _ h=>h) (Or.inl ⟨by rfl,?hyA6⟩) (by assumption) ?rsA6;case hyA6 =>
   intro w hSw;(try dsimp only at hSw)
   go_simp;(try with_reducible rfl)
  (try simp only [Act.put,List.setIfInBounds_toArray,List.set_cons_zero,List.set_cons_succ])
  refine wpAnyH_take (i:=7) (oi:={ dst:=some 166,op:=Op.load 40 (Operand.tmp 165),type:=40,pos := "heap.go:248",after:=#[{ on:=6,ground:=Ground.data }],guard:=none }) (v:=?vvA7) rfl (by kernel_rfl) (by kernel_rfl) (by kernel_rfl) (fun _ _ _ h=>h) (Or.inl ⟨by rfl,?hyA7⟩) (by assumption) ?rsA7;case hyA7 =>
   intro w hSw;(try dsimp only at hSw)
   go_simp;(try with_reducible rfl)
  (try simp only [Act.put,List.setIfInBounds_toArray,List.set_cons_zero,List.set_cons_succ])
  refine wpAnyH_take (i:=9) (oi:={ dst:=some 168,op:=Op.move (Operand.tmp 10),type:=22,pos := "heap.go:248",after:=#[],guard:=none }) (v:=?vvA9) rfl (by kernel_rfl) (by kernel_rfl) (by kernel_rfl) (fun _ _ _ h=>h) (Or.inl ⟨by rfl,?hyA9⟩) (by assumption) ?rsA9;case hyA9 =>
   intro w hSw;(try dsimp only at hSw)
   go_simp;(try with_reducible rfl)
  (try simp only [Act.put,List.setIfInBounds_toArray,List.set_cons_zero,List.set_cons_succ])
  refine wpAnyH_take (i:=10) (oi:={ dst:=some 169,op:=Op.indexAddr 22 (Operand.tmp 168) (Operand.const (Value.int IntKind.i64 2)),type:=0,pos := "heap.go:248",after:=#[{ on:=9,ground:=Ground.data }],guard:=none }) (v:=?vvA10) rfl (by kernel_rfl) (by kernel_rfl) (by kernel_rfl) (fun _ _ _ h=>h) (Or.inl ⟨by rfl,?hyA10⟩) (by assumption) ?rsA10;case hyA10 =>
   intro w hSw;(try dsimp only at hSw)
   go_simp;(try with_reducible rfl)
  (try simp only [Act.put,List.setIfInBounds_toArray,List.set_cons_zero,List.set_cons_succ])
  refine wpAnyH_take (i:=11) (oi:={ dst:=some 170,op:=Op.load 40 (Operand.tmp 169),type:=40,pos := "heap.go:248",after:=#[{ on:=10,ground:=Ground.data }],guard:=none }) (v:=?vvA11) rfl (by kernel_rfl) (by kernel_rfl) (by kernel_rfl) (fun _ _ _ h=>h) (Or.inl ⟨by rfl,?hyA11⟩) (by assumption) ?rsA11;case hyA11 =>
   intro w hSw;(try dsimp only at hSw)
   go_simp;(try with_reducible rfl)
  (try simp only [Act.put,List.setIfInBounds_toArray,List.set_cons_zero,List.set_cons_succ])
  refine wpAnyH_ready (rs:=[4]) (by kernel_rfl) (by simp) ?_;refine (AllReadyH.cons (o:={ dst:=some 163,op:=Op.call { callee:=Callee.value (Operand.func 154),args:=#[Operand.tmp 159,Operand.tmp 162],argTypes:=#[34,40] },type:=9,pos := "heap.go:248",after:=#[{ on:=0,ground:=Ground.data },{ on:=3,ground:=Ground.data }],guard:=none }) rfl (fun K hK=>?_) AllReadyH.nil);go_simp;refine (HN0.out _ HBd.out).mono ?_;rintro e w2 ⟨rfl,rfl⟩;go_wp2_with fail
  refine hK.out _ _ ?_ (fun hHeld=>?_)
  ·first | exact ⟨r0',r1',r2'⟩ | exact ⟨(HSet.out _ _).trans r0',(HSet.out _ _).trans r1',(HSet.out _ _).trans r2'⟩
  clear hK K;(try simp only [Act.put,List.setIfInBounds_toArray,List.set_cons_zero,List.set_cons_succ])
  refine wpAnyH_ready (rs:=[8]) (by kernel_rfl) (by simp) ?_;refine (AllReadyH.cons (o:={ dst:=some 167,op:=Op.call { callee:=Callee.value (Operand.func 77),args:=#[Operand.tmp 166],argTypes:=#[40] },type:=2,pos := "heap.go:248",after:=#[{ on:=7,ground:=Ground.data },{ on:=4,ground:=Ground.chain }],guard:=none }) rfl (fun K hK=>?_) AllReadyH.nil);go_simp;refine (num77i _ _ (by assumption) _).mono ?_;rintro e w2 ⟨rfl,rfl⟩;go_wp2_with fail
  refine hK.out _ _ ?_ (fun hHeld=>?_)
  ·first | exact ⟨r0',r1',r2'⟩ | exact ⟨(HSet.out _ _).trans r0',(HSet.out _ _).trans r1',(HSet.out _ _).trans r2'⟩
  clear hK K;(try simp only [Act.put,List.setIfInBounds_toArray,List.set_cons_zero,List.set_cons_succ])
  refine wpAnyH_ready (rs:=[12]) (by kernel_rfl) (by simp) ?_;refine (AllReadyH.cons (o:={ dst:=some 171,op:=Op.call { callee:=Callee.value (Operand.func 77),args:=#[Operand.tmp 170],argTypes:=#[40] },type:=2,pos := "heap.go:248",after:=#[{ on:=11,ground:=Ground.data },{ on:=8,ground:=Ground.chain }],guard:=none }) rfl (fun K hK=>?_) AllReadyH.nil);go_simp;refine (num77i _ _ (by assumption) _).mono ?_;rintro e w2 ⟨rfl,rfl⟩;go_wp2_with fail
  refine hK.out _ _ ?_ (fun hHeld=>?_)
  ·first | exact ⟨r0',r1',r2'⟩ | exact ⟨(HSet.out _ _).trans r0',(HSet.out _ _).trans r1',(HSet.out _ _).trans r2'⟩
  clear hK K;(try simp only [Act.put,List.setIfInBounds_toArray,List.set_cons_zero,List.set_cons_succ])
  refine wpAnyH_take (i:=13) (oi:={ dst:=some 172,op:=Op.build 38 #[(0,Operand.const (Value.int IntKind.i64 3)),(3,Operand.tmp 163),(2,Operand.tmp 167),(1,Operand.tmp 171)],type:=38,pos := "heap.go:248",after:=#[{ on:=4,ground:=Ground.data },{ on:=8,ground:=Ground.data },{ on:=12,ground:=Ground.data }],guard:=none }) (v:=?vvA13) rfl (by kernel_rfl) (by kernel_rfl) (by kernel_rfl) (fun _ _ _ h=>h) (Or.inl ⟨by rfl,?hyA13⟩) (by assumption) ?rsA13;case hyA13 =>
   intro w hSw;(try dsimp only at hSw)
   go_simp;(try with_reducible rfl)
  (try simp only [Act.put,List.setIfInBounds_toArray,List.set_cons_zero,List.set_cons_succ])
  refine wpAnyH_ready (rs:=[14]) (by kernel_rfl) (by simp) ?_
  refine (AllReadyH.cons (o:={ dst:=none,op:=Op.store 38 (Operand.tmp 4) (Operand.tmp 172),type:=0,pos := "heap.go:248",after:=#[{ on:=13,ground:=Ground.data },{ on:=12,ground:=Ground.chain },{ on:=0,ground:=Ground.phase },{ on:=1,ground:=Ground.phase },{ on:=2,ground:=Ground.phase },{ on:=3,ground:=Ground.phase },{ on:=4,ground:=Ground.phase },{ on:=5,ground:=Ground.phase },{ on:=6,ground:=Ground.phase },{ on:=7,ground:=Ground.phase },{ on:=8,ground:=Ground.phase },{ on:=9,ground:=Ground.phase },{ on:=10,ground:=Ground.phase },{ on:=11,ground:=Ground.phase },{ on:=12,ground:=Ground.phase },{ on:=13,ground:=Ground.phase }],guard:=none }) rfl (fun K hK=>?_) AllReadyH.nil)
  rw [if_pos (by rfl)];refine wp_store_row 38 (.tmp 4) (.tmp 172) rfl w.heap.size (C9f ⟨3,n2,n1,nm0,e0,0,e0,0⟩ nilV) rfl rfl 38 zC HZd i38 rfl (nine1 _ rfl) ?_
  refine hK.out _ _ ?_ (fun hHeld=>?_)
  ·first | exact ⟨r0',r1',r2'⟩ | exact ⟨(HSet.out _ _).trans r0',(HSet.out _ _).trans r1',(HSet.out _ _).trans r2'⟩
  clear hK K;(try simp only [Act.put,List.setIfInBounds_toArray,List.set_cons_zero,List.set_cons_succ])
  refine wpAnyH_done (by kernel_rfl) ?_ _;go_wp2_with fail;refine bodyPost_ret (v:=aggV ⟨3,n2,n1,nm0,e0,0,e0,0⟩ nilV) (ret_row rfl _ rfl (cs:=encR (⟨3,n2,n1,nm0,e0,0,e0,0⟩,nilV)) rfl (range_blk (setRow_heap _ _ _ _ _ _ HZd))) rfl ⟨rfl,below_setRow HBd.out (Nat.le_refl _) _⟩
 ·go_wp2_with fail;refine (HFx.out _).mono ?_;rintro e w2 ⟨rfl,rfl⟩;go_wp2_with fail;refine wp_loop_rounds 1 ?_;rw [rounds_succ];go_wp2_with fail;have HZd:w1.drew.heap[w.heap.size]? = some (.cells zC 38):=HZ1.out;have HBd:=Lib.hid (belowD HB1.out);have r0':w1.drew.cell? ⟨g,o,none⟩ = some (.int .u64 k0):=r0;have r1':w1.drew.cell? ⟨g,o + 1,none⟩ = some (.int .u64 k1):=r1;have r2':w1.drew.cell? ⟨g,o + 2,none⟩ = some (.int .u64 k2):=r2
  have HSet:Hid (∀ q c,(w1.drew.setRow w.heap.size c).cell? ⟨g,q,none⟩ = w1.drew.cell? ⟨g,q,none⟩):=Lib.hid (fun q c=>World.cell?_of_block (w:=w1.drew) (a:=⟨g,q,none⟩) (setRow_other _ _ _ _ (show g ≠ w.heap.size by have:=HG.out;omega)));clear r0 r1 r2;refine wp_region_held_drew (S:=fun W=>W.cell? ⟨g,o,none⟩ = some (.int .u64 k0)∧W.cell? ⟨g,o + 1,none⟩ = some (.int .u64 k1)∧W.cell? ⟨g,o + 2,none⟩ = some (.int .u64 k2)) (by kernel_rfl) ⟨r0',r1',r2'⟩ (fun hHeld=>?_)
  refine wpAnyH_take (i:=0) (oi:={ dst:=some 159,op:=Op.move (Operand.tmp 0),type:=34,pos := "heap.go:248",after:=#[],guard:=none }) (v:=?vvB0) rfl (by kernel_rfl) (by kernel_rfl) (by kernel_rfl) (fun _ _ _ h=>h) (Or.inl ⟨by rfl,?hyB0⟩) (by assumption) ?rsB0;case hyB0 =>
   intro w hSw;(try dsimp only at hSw)
   go_simp;(try with_reducible rfl)
  (try simp only [Act.put,List.setIfInBounds_toArray,List.set_cons_zero,List.set_cons_succ])
  refine wpAnyH_take (i:=1) (oi:={ dst:=some 160,op:=Op.move (Operand.tmp 10),type:=22,pos := "heap.go:248",after:=#[],guard:=none }) (v:=?vvB1) rfl (by kernel_rfl) (by kernel_rfl) (by kernel_rfl) (fun _ _ _ h=>h) (Or.inl ⟨by rfl,?hyB1⟩) (by assumption) ?rsB1;case hyB1 =>
   intro w hSw;(try dsimp only at hSw)
   go_simp;(try with_reducible rfl)
  (try simp only [Act.put,List.setIfInBounds_toArray,List.set_cons_zero,List.set_cons_succ])
  refine wpAnyH_take (i:=2) (oi:={ dst:=some 161,op:=Op.indexAddr 22 (Operand.tmp 160) (Operand.const (Value.int IntKind.i64 0)),type:=0,pos := "heap.go:248",after:=#[{ on:=1,ground:=Ground.data }],guard:=none }) (v:=?vvB2) rfl (by kernel_rfl) (by kernel_rfl) (by kernel_rfl) (fun _ _ _ h=>h) (Or.inl ⟨by rfl,?hyB2⟩) (by assumption) ?rsB2;case hyB2 =>
   intro w hSw;(try dsimp only at hSw)
   go_simp;(try with_reducible rfl)
  (try simp only [Act.put,List.setIfInBounds_toArray,List.set_cons_zero,List.set_cons_succ])
  refine wpAnyH_take (i:=3) (oi:={ dst:=some 162,op:=Op.load 40 (Operand.tmp 161),type:=40,pos := "heap.go:248",after:=#[{ on:=2,ground:=Ground.data }],guard:=none }) (v:=?vvB3) rfl (by kernel_rfl) (by kernel_rfl) (by kernel_rfl) (fun _ _ _ h=>h) (Or.inl ⟨by rfl,?hyB3⟩) (by assumption) ?rsB3;case hyB3 =>
   intro w hSw;(try dsimp only at hSw)
   go_simp;(try with_reducible rfl)
  (try simp only [Act.put,List.setIfInBounds_toArray,List.set_cons_zero,List.set_cons_succ])
  refine wpAnyH_take (i:=5) (oi:={ dst:=some 164,op:=Op.move (Operand.tmp 10),type:=22,pos := "heap.go:248",after:=#[],guard:=none }) (v:=?vvB5) rfl (by kernel_rfl) (by kernel_rfl) (by kernel_rfl) (fun _ _ _ h=>h) (Or.inl ⟨by rfl,?hyB5⟩) (by assumption) ?rsB5;case hyB5 =>
   intro w hSw;(try dsimp only at hSw)
   go_simp;(try with_reducible rfl)
  (try simp only [Act.put,List.setIfInBounds_toArray,List.set_cons_zero,List.set_cons_succ])
  refine wpAnyH_take (i:=6) (oi:={ dst:=some 165,op:=Op.indexAddr 22 (Operand.tmp 164) (Operand.const (Value.int IntKind.i64 1)),type:=0,pos := "heap.go:248",after:=#[{ on:=5,ground:=Ground.data }],guard:=none }) (v:=?vvB6) rfl (by kernel_rfl) (by kernel_rfl) (by kernel_rfl) (fun _ _ _ h=>h) (Or.inl ⟨by rfl,?hyB6⟩) (by assumption) ?rsB6;case hyB6 =>
   intro w hSw;(try dsimp only at hSw)
   go_simp;(try with_reducible rfl)
  (try simp only [Act.put,List.setIfInBounds_toArray,List.set_cons_zero,List.set_cons_succ])
  refine wpAnyH_take (i:=7) (oi:={ dst:=some 166,op:=Op.load 40 (Operand.tmp 165),type:=40,pos := "heap.go:248",after:=#[{ on:=6,ground:=Ground.data }],guard:=none }) (v:=?vvB7) rfl (by kernel_rfl) (by kernel_rfl) (by kernel_rfl) (fun _ _ _ h=>h) (Or.inl ⟨by rfl,?hyB7⟩) (by assumption) ?rsB7;case hyB7 =>
   intro w hSw;(try dsimp only at hSw)
   go_simp;(try with_reducible rfl)
  (try simp only [Act.put,List.setIfInBounds_toArray,List.set_cons_zero,List.set_cons_succ])
  refine wpAnyH_take (i:=9) (oi:={ dst:=some 168,op:=Op.move (Operand.tmp 10),type:=22,pos := "heap.go:248",after:=#[],guard:=none }) (v:=?vvB9) rfl (by kernel_rfl) (by kernel_rfl) (by kernel_rfl) (fun _ _ _ h=>h) (Or.inl ⟨by rfl,?hyB9⟩) (by assumption) ?rsB9;case hyB9 =>
   intro w hSw;(try dsimp only at hSw)
   go_simp;(try with_reducible rfl)
  (try simp only [Act.put,List.setIfInBounds_toArray,List.set_cons_zero,List.set_cons_succ])
  refine wpAnyH_take (i:=10) (oi:={ dst:=some 169,op:=Op.indexAddr 22 (Operand.tmp 168) (Operand.const (Value.int IntKind.i64 2)),type:=0,pos := "heap.go:248",after:=#[{ on:=9,ground:=Ground.data }],guard:=none }) (v:=?vvB10) rfl (by kernel_rfl) (by kernel_rfl) (by kernel_rfl) (fun _ _ _ h=>h) (Or.inl ⟨by rfl,?hyB10⟩) (by assumption) ?rsB10;case hyB10 =>
   intro w hSw;(try dsimp only at hSw)
   go_simp;(try with_reducible rfl)
  (try simp only [Act.put,List.setIfInBounds_toArray,List.set_cons_zero,List.set_cons_succ])
  refine wpAnyH_take (i:=11) (oi:={ dst:=some 170,op:=Op.load 40 (Operand.tmp 169),type:=40,pos := "heap.go:248",after:=#[{ on:=10,ground:=Ground.data }],guard:=none }) (v:=?vvB11) rfl (by kernel_rfl) (by kernel_rfl) (by kernel_rfl) (fun _ _ _ h=>h) (Or.inl ⟨by rfl,?hyB11⟩) (by assumption) ?rsB11;case hyB11 =>
   intro w hSw;(try dsimp only at hSw)
   go_simp;(try with_reducible rfl)
  (try simp only [Act.put,List.setIfInBounds_toArray,List.set_cons_zero,List.set_cons_succ])
  refine wpAnyH_ready (rs:=[4]) (by kernel_rfl) (by simp) ?_;refine (AllReadyH.cons (o:={ dst:=some 163,op:=Op.call { callee:=Callee.value (Operand.func 154),args:=#[Operand.tmp 159,Operand.tmp 162],argTypes:=#[34,40] },type:=9,pos := "heap.go:248",after:=#[{ on:=0,ground:=Ground.data },{ on:=3,ground:=Ground.data }],guard:=none }) rfl (fun K hK=>?_) AllReadyH.nil);go_simp;refine (HN0.out _ HBd.out).mono ?_;rintro e w2 ⟨rfl,rfl⟩;go_wp2_with fail
  refine hK.out _ _ ?_ (fun hHeld=>?_)
  ·first | exact ⟨r0',r1',r2'⟩ | exact ⟨(HSet.out _ _).trans r0',(HSet.out _ _).trans r1',(HSet.out _ _).trans r2'⟩
  clear hK K;(try simp only [Act.put,List.setIfInBounds_toArray,List.set_cons_zero,List.set_cons_succ])
  refine wpAnyH_ready (rs:=[8]) (by kernel_rfl) (by simp) ?_;refine (AllReadyH.cons (o:={ dst:=some 167,op:=Op.call { callee:=Callee.value (Operand.func 77),args:=#[Operand.tmp 166],argTypes:=#[40] },type:=2,pos := "heap.go:248",after:=#[{ on:=7,ground:=Ground.data },{ on:=4,ground:=Ground.chain }],guard:=none }) rfl (fun K hK=>?_) AllReadyH.nil);go_simp;refine (num77i _ _ (by assumption) _).mono ?_;rintro e w2 ⟨rfl,rfl⟩;go_wp2_with fail
  refine hK.out _ _ ?_ (fun hHeld=>?_)
  ·first | exact ⟨r0',r1',r2'⟩ | exact ⟨(HSet.out _ _).trans r0',(HSet.out _ _).trans r1',(HSet.out _ _).trans r2'⟩
  clear hK K;(try simp only [Act.put,List.setIfInBounds_toArray,List.set_cons_zero,List.set_cons_succ])
  refine wpAnyH_ready (rs:=[12]) (by kernel_rfl) (by simp) ?_;refine (AllReadyH.cons (o:={ dst:=some 171,op:=Op.call { callee:=Callee.value (Operand.func 77),args:=#[Operand.tmp 170],argTypes:=#[40] },type:=2,pos := "heap.go:248",after:=#[{ on:=11,ground:=Ground.data },{ on:=8,ground:=Ground.chain }],guard:=none }) rfl (fun K hK=>?_) AllReadyH.nil);go_simp;refine (num77i _ _ (by assumption) _).mono ?_;rintro e w2 ⟨rfl,rfl⟩;go_wp2_with fail
  refine hK.out _ _ ?_ (fun hHeld=>?_)
  ·first | exact ⟨r0',r1',r2'⟩ | exact ⟨(HSet.out _ _).trans r0',(HSet.out _ _).trans r1',(HSet.out _ _).trans r2'⟩
  clear hK K;(try simp only [Act.put,List.setIfInBounds_toArray,List.set_cons_zero,List.set_cons_succ])
  refine wpAnyH_take (i:=13) (oi:={ dst:=some 172,op:=Op.build 38 #[(0,Operand.const (Value.int IntKind.i64 3)),(3,Operand.tmp 163),(2,Operand.tmp 167),(1,Operand.tmp 171)],type:=38,pos := "heap.go:248",after:=#[{ on:=4,ground:=Ground.data },{ on:=8,ground:=Ground.data },{ on:=12,ground:=Ground.data }],guard:=none }) (v:=?vvB13) rfl (by kernel_rfl) (by kernel_rfl) (by kernel_rfl) (fun _ _ _ h=>h) (Or.inl ⟨by rfl,?hyB13⟩) (by assumption) ?rsB13;case hyB13 =>
   intro w hSw;(try dsimp only at hSw)
   go_simp;(try with_reducible rfl)
  (try simp only [Act.put,List.setIfInBounds_toArray,List.set_cons_zero,List.set_cons_succ])
  refine wpAnyH_ready (rs:=[14]) (by kernel_rfl) (by simp) ?_
  refine (AllReadyH.cons (o:={ dst:=none,op:=Op.store 38 (Operand.tmp 4) (Operand.tmp 172),type:=0,pos := "heap.go:248",after:=#[{ on:=13,ground:=Ground.data },{ on:=12,ground:=Ground.chain },{ on:=0,ground:=Ground.phase },{ on:=1,ground:=Ground.phase },{ on:=2,ground:=Ground.phase },{ on:=3,ground:=Ground.phase },{ on:=4,ground:=Ground.phase },{ on:=5,ground:=Ground.phase },{ on:=6,ground:=Ground.phase },{ on:=7,ground:=Ground.phase },{ on:=8,ground:=Ground.phase },{ on:=9,ground:=Ground.phase },{ on:=10,ground:=Ground.phase },{ on:=11,ground:=Ground.phase },{ on:=12,ground:=Ground.phase },{ on:=13,ground:=Ground.phase }],guard:=none }) rfl (fun K hK=>?_) AllReadyH.nil)
  rw [if_pos (by rfl)];refine wp_store_row 38 (.tmp 4) (.tmp 172) rfl w.heap.size (C9f ⟨3,n2,n1,nm0,e0,0,e0,0⟩ nilV) rfl rfl 38 zC HZd i38 rfl (nine1 _ rfl) ?_
  refine hK.out _ _ ?_ (fun hHeld=>?_)
  ·first | exact ⟨r0',r1',r2'⟩ | exact ⟨(HSet.out _ _).trans r0',(HSet.out _ _).trans r1',(HSet.out _ _).trans r2'⟩
  clear hK K;(try simp only [Act.put,List.setIfInBounds_toArray,List.set_cons_zero,List.set_cons_succ])
  refine wpAnyH_done (by kernel_rfl) ?_ _;go_wp2_with fail;refine bodyPost_ret (v:=aggV ⟨3,n2,n1,nm0,e0,0,e0,0⟩ nilV) (ret_row rfl _ rfl (cs:=encR (⟨3,n2,n1,nm0,e0,0,e0,0⟩,nilV)) rfl (range_blk (setRow_heap _ _ _ _ _ _ HZd))) rfl ⟨rfl,below_setRow HBd.out (Nat.le_refl _) _⟩
theorem get_x3 (h:HQ w B z a b c σ S) (hY:σ.Y.length ≤ 100000) (hN:σ.N.length ≤ 500000) {v:Int} (v0:0 ≤ v) (v1:v ≤ 18446744073709551615) (hs:soOk v = false) (ha:aoOk v = false) {x:List Int} (hp:cl.Pt (Kb σ) v x) (hk:cl.knd x = 3) {k0 k1 k2:Int} (hw:cl.wds x = [k0,k1,k2]) (W0:0 ≤ k0∧k0 ≤ 18446744073709551615) (W1:0 ≤ k1∧k1 ≤ 18446744073709551615) (W2:0 ≤ k2∧k2 ≤ 18446744073709551615) :
 Calls Tryz.prog 86 #[.pointer (some ⟨z,0,none⟩),.int .u64 v] w (Get0 ⟨5,0,0,nameO σ k0,nameO σ k1,soN k2,e0,0⟩ w):=by
 have HS:=Lib.hid (fun W=>words.SmallOf v v0 v1 W);rw [hs] at HS;have HA':=Lib.hid (fun W=>words.AtomOf v v0 v1 W);rw [ha] at HA';have hb0:Below w.heap.size w (w.alloc (.cells zC 38)):=belowA (Below.refl _ w) _;have hsz:(w.alloc (.cells zC 38)).heap.size = w.heap.size + 1:=World.size_alloc _ _;have HO:=Lib.hid (objQ2 h hY hb0 v0 v1 hp);rw [hk,hw] at HO;have HZ:=Lib.hid (heap_alloc_new w (.cells zC 38));have HB:=Lib.hid hb0;have HSZ:=Lib.hid hsz;have HQ0:=Lib.hid h;have HN0:=Lib.hid (fun W (hb:Below w.heap.size w W)=>name154 (h.below hb) hN k0 W0.1 W0.2)
 have HN1:=Lib.hid (fun W (hb:Below w.heap.size w W)=>name154 (h.below hb) hN k1 W1.1 W1.2);generalize nameO σ k1 = nm1 at *;have m2:NumIs k2 (soN k2):=⟨W2.1,W2.2,rfl⟩;generalize soN k2 = n2 at *;generalize nameO σ k0 = nm0 at *;clear h hs ha hp hk hw hb0 hsz v0 v1 W0 W1 W2;unfold Get0;go_enter Tryz.func86,Tryz.ntmps86;go_wp2_with fail;refine (HS.out _).mono ?_;rintro e w1 ⟨rfl,rfl⟩;go_wp2_with fail;refine (HA'.out _).mono ?_;rintro e w1 ⟨rfl,rfl⟩;go_wp2_with fail;refine HO.out.mono ?_;rintro e w1 ⟨u,rfl,hr,hb⟩;have HR:=Lib.hid hr;obtain ⟨p,k,e,hk1,hk2⟩:=hr.shape;rw [e] at hr HR
 obtain ⟨g,o,rfl,hml,hg,hc⟩:=hr.nth (by simp);subst e;have r0:w1.cell? ⟨g,o,none⟩ = some (.int .u64 k0):=by simpa using hc 0 k0 rfl 0 _ rfl
 have r1:w1.cell? ⟨g,o + 1,none⟩ = some (.int .u64 k1):=by simpa using hc 1 k1 rfl 0 _ rfl
 have r2:w1.cell? ⟨g,o + 2,none⟩ = some (.int .u64 k2):=by simpa using hc 2 k2 rfl 0 _ rfl
 have HZ1:=Lib.hid ((hb.block w.heap.size (by have:=HSZ.out;omega)).trans HZ.out);have HB1:=Lib.hid (HB.out.trans (hb.mono HB.out.size));have HG:Hid (g < w.heap.size∧w.heap.size < w1.heap.size):=Lib.hid (by have:=HSZ.out;have:=hb.size;omega);have HFx:Hid (∀ W,Calls Tryz.prog 133 #[.int .i64 3,.slice (some ⟨g,o,none⟩) (3) k] W fun e w'=>e = .returned (.int .i64 ((3:Nat):Int))∧W = w'):=Lib.hid (fun W=>by
  have h:=cl.fixed114 W (some ⟨g,o,none⟩) (3) k 3
  simpa [cl.fxd] using h)
 have hk1':(3) = k∨(((3):Nat):Int) < (k:Int):=by
  have:(3) ≤ k:=by simpa using hk1
  omega
 clear hml hr hc hb hk1 hk2 HO HZ
 rcases hk1' with rfl | hk1'
 ·go_wp2_with fail;refine (HFx.out _).mono ?_;rintro e w2 ⟨rfl,rfl⟩;go_wp2_with fail;refine wp_loop_rounds 1 ?_;rw [rounds_succ];go_wp2_with fail;have HZd:w1.drew.heap[w.heap.size]? = some (.cells zC 38):=HZ1.out;have HBd:=Lib.hid (belowD HB1.out);have r0':w1.drew.cell? ⟨g,o,none⟩ = some (.int .u64 k0):=r0;have r1':w1.drew.cell? ⟨g,o + 1,none⟩ = some (.int .u64 k1):=r1;have r2':w1.drew.cell? ⟨g,o + 2,none⟩ = some (.int .u64 k2):=r2
  have HSet:Hid (∀ q c,(w1.drew.setRow w.heap.size c).cell? ⟨g,q,none⟩ = w1.drew.cell? ⟨g,q,none⟩):=Lib.hid (fun q c=>World.cell?_of_block (w:=w1.drew) (a:=⟨g,q,none⟩) (setRow_other _ _ _ _ (show g ≠ w.heap.size by have:=HG.out;omega)));clear r0 r1 r2;refine wp_region_held_drew (S:=fun W=>W.cell? ⟨g,o,none⟩ = some (.int .u64 k0)∧W.cell? ⟨g,o + 1,none⟩ = some (.int .u64 k1)∧W.cell? ⟨g,o + 2,none⟩ = some (.int .u64 k2)) (by kernel_rfl) ⟨r0',r1',r2'⟩ (fun hHeld=>?_)
  refine wpAnyH_take (i:=0) (oi:={ dst:=some 126,op:=Op.move (Operand.tmp 0),type:=34,pos := "heap.go:244",after:=#[],guard:=none }) (v:=?vvA0) rfl (by kernel_rfl) (by kernel_rfl) (by kernel_rfl) (fun _ _ _ h=>h) (Or.inl ⟨by rfl,?hyA0⟩) (by assumption) ?rsA0;case hyA0 =>
   intro w hSw;(try dsimp only at hSw)
   go_simp;(try with_reducible rfl)
  (try simp only [Act.put,List.setIfInBounds_toArray,List.set_cons_zero,List.set_cons_succ])
  refine wpAnyH_take (i:=1) (oi:={ dst:=some 127,op:=Op.move (Operand.tmp 10),type:=22,pos := "heap.go:244",after:=#[],guard:=none }) (v:=?vvA1) rfl (by kernel_rfl) (by kernel_rfl) (by kernel_rfl) (fun _ _ _ h=>h) (Or.inl ⟨by rfl,?hyA1⟩) (by assumption) ?rsA1;case hyA1 =>
   intro w hSw;(try dsimp only at hSw)
   go_simp;(try with_reducible rfl)
  (try simp only [Act.put,List.setIfInBounds_toArray,List.set_cons_zero,List.set_cons_succ])
  refine wpAnyH_take (i:=2) (oi:={ dst:=some 128,op:=Op.indexAddr 22 (Operand.tmp 127) (Operand.const (Value.int IntKind.i64 0)),type:=0,pos := "heap.go:244",after:=#[{ on:=1,ground:=Ground.data }],guard:=none }) (v:=?vvA2) rfl (by kernel_rfl) (by kernel_rfl) (by kernel_rfl) (fun _ _ _ h=>h) (Or.inl ⟨by rfl,?hyA2⟩) (by assumption) ?rsA2;case hyA2 =>
   intro w hSw;(try dsimp only at hSw)
   go_simp;(try with_reducible rfl)
  (try simp only [Act.put,List.setIfInBounds_toArray,List.set_cons_zero,List.set_cons_succ])
  refine wpAnyH_take (i:=3) (oi:={ dst:=some 129,op:=Op.load 40 (Operand.tmp 128),type:=40,pos := "heap.go:244",after:=#[{ on:=2,ground:=Ground.data }],guard:=none }) (v:=?vvA3) rfl (by kernel_rfl) (by kernel_rfl) (by kernel_rfl) (fun _ _ _ h=>h) (Or.inl ⟨by rfl,?hyA3⟩) (by assumption) ?rsA3;case hyA3 =>
   intro w hSw;(try dsimp only at hSw)
   go_simp;(try with_reducible rfl)
  (try simp only [Act.put,List.setIfInBounds_toArray,List.set_cons_zero,List.set_cons_succ])
  refine wpAnyH_take (i:=5) (oi:={ dst:=some 131,op:=Op.move (Operand.tmp 0),type:=34,pos := "heap.go:244",after:=#[],guard:=none }) (v:=?vvA5) rfl (by kernel_rfl) (by kernel_rfl) (by kernel_rfl) (fun _ _ _ h=>h) (Or.inl ⟨by rfl,?hyA5⟩) (by assumption) ?rsA5;case hyA5 =>
   intro w hSw;(try dsimp only at hSw)
   go_simp;(try with_reducible rfl)
  (try simp only [Act.put,List.setIfInBounds_toArray,List.set_cons_zero,List.set_cons_succ])
  refine wpAnyH_take (i:=6) (oi:={ dst:=some 132,op:=Op.move (Operand.tmp 10),type:=22,pos := "heap.go:244",after:=#[],guard:=none }) (v:=?vvA6) rfl (by kernel_rfl) (by kernel_rfl) (by kernel_rfl) (fun _ _ _ h=>h) (Or.inl ⟨by rfl,?hyA6⟩) (by assumption) ?rsA6;case hyA6 =>
   intro w hSw;(try dsimp only at hSw)
   go_simp;(try with_reducible rfl)
  (try simp only [Act.put,List.setIfInBounds_toArray,List.set_cons_zero,List.set_cons_succ])
  refine wpAnyH_take (i:=7) (oi:={ dst:=some 133,op:=Op.indexAddr 22 (Operand.tmp 132) (Operand.const (Value.int IntKind.i64 1)),type:=0,pos := "heap.go:244",after:=#[{ on:=6,ground:=Ground.data }],guard:=none }) (v:=?vvA7) rfl (by kernel_rfl) (by kernel_rfl) (by kernel_rfl) (fun _ _ _ h=>h) (Or.inl ⟨by rfl,?hyA7⟩) (by assumption) ?rsA7;case hyA7 =>
   intro w hSw;(try dsimp only at hSw)
   go_simp;(try with_reducible rfl)
  (try simp only [Act.put,List.setIfInBounds_toArray,List.set_cons_zero,List.set_cons_succ])
  refine wpAnyH_take (i:=8) (oi:={ dst:=some 134,op:=Op.load 40 (Operand.tmp 133),type:=40,pos := "heap.go:244",after:=#[{ on:=7,ground:=Ground.data }],guard:=none }) (v:=?vvA8) rfl (by kernel_rfl) (by kernel_rfl) (by kernel_rfl) (fun _ _ _ h=>h) (Or.inl ⟨by rfl,?hyA8⟩) (by assumption) ?rsA8;case hyA8 =>
   intro w hSw;(try dsimp only at hSw)
   go_simp;(try with_reducible rfl)
  (try simp only [Act.put,List.setIfInBounds_toArray,List.set_cons_zero,List.set_cons_succ])
  refine wpAnyH_take (i:=10) (oi:={ dst:=some 136,op:=Op.move (Operand.tmp 10),type:=22,pos := "heap.go:244",after:=#[],guard:=none }) (v:=?vvA10) rfl (by kernel_rfl) (by kernel_rfl) (by kernel_rfl) (fun _ _ _ h=>h) (Or.inl ⟨by rfl,?hyA10⟩) (by assumption) ?rsA10;case hyA10 =>
   intro w hSw;(try dsimp only at hSw)
   go_simp;(try with_reducible rfl)
  (try simp only [Act.put,List.setIfInBounds_toArray,List.set_cons_zero,List.set_cons_succ])
  refine wpAnyH_take (i:=11) (oi:={ dst:=some 137,op:=Op.indexAddr 22 (Operand.tmp 136) (Operand.const (Value.int IntKind.i64 2)),type:=0,pos := "heap.go:244",after:=#[{ on:=10,ground:=Ground.data }],guard:=none }) (v:=?vvA11) rfl (by kernel_rfl) (by kernel_rfl) (by kernel_rfl) (fun _ _ _ h=>h) (Or.inl ⟨by rfl,?hyA11⟩) (by assumption) ?rsA11;case hyA11 =>
   intro w hSw;(try dsimp only at hSw)
   go_simp;(try with_reducible rfl)
  (try simp only [Act.put,List.setIfInBounds_toArray,List.set_cons_zero,List.set_cons_succ])
  refine wpAnyH_take (i:=12) (oi:={ dst:=some 138,op:=Op.load 40 (Operand.tmp 137),type:=40,pos := "heap.go:244",after:=#[{ on:=11,ground:=Ground.data }],guard:=none }) (v:=?vvA12) rfl (by kernel_rfl) (by kernel_rfl) (by kernel_rfl) (fun _ _ _ h=>h) (Or.inl ⟨by rfl,?hyA12⟩) (by assumption) ?rsA12;case hyA12 =>
   intro w hSw;(try dsimp only at hSw)
   go_simp;(try with_reducible rfl)
  (try simp only [Act.put,List.setIfInBounds_toArray,List.set_cons_zero,List.set_cons_succ])
  refine wpAnyH_ready (rs:=[4]) (by kernel_rfl) (by simp) ?_;refine (AllReadyH.cons (o:={ dst:=some 130,op:=Op.call { callee:=Callee.value (Operand.func 154),args:=#[Operand.tmp 126,Operand.tmp 129],argTypes:=#[34,40] },type:=9,pos := "heap.go:244",after:=#[{ on:=0,ground:=Ground.data },{ on:=3,ground:=Ground.data }],guard:=none }) rfl (fun K hK=>?_) AllReadyH.nil);go_simp;refine (HN0.out _ HBd.out).mono ?_;rintro e w2 ⟨rfl,rfl⟩;go_wp2_with fail
  refine hK.out _ _ ?_ (fun hHeld=>?_)
  ·first | exact ⟨r0',r1',r2'⟩ | exact ⟨(HSet.out _ _).trans r0',(HSet.out _ _).trans r1',(HSet.out _ _).trans r2'⟩
  clear hK K;(try simp only [Act.put,List.setIfInBounds_toArray,List.set_cons_zero,List.set_cons_succ])
  refine wpAnyH_ready (rs:=[9]) (by kernel_rfl) (by simp) ?_;refine (AllReadyH.cons (o:={ dst:=some 135,op:=Op.call { callee:=Callee.value (Operand.func 154),args:=#[Operand.tmp 131,Operand.tmp 134],argTypes:=#[34,40] },type:=9,pos := "heap.go:244",after:=#[{ on:=5,ground:=Ground.data },{ on:=8,ground:=Ground.data },{ on:=4,ground:=Ground.chain }],guard:=none }) rfl (fun K hK=>?_) AllReadyH.nil);go_simp;refine (HN1.out _ HBd.out).mono ?_;rintro e w2 ⟨rfl,rfl⟩;go_wp2_with fail
  refine hK.out _ _ ?_ (fun hHeld=>?_)
  ·first | exact ⟨r0',r1',r2'⟩ | exact ⟨(HSet.out _ _).trans r0',(HSet.out _ _).trans r1',(HSet.out _ _).trans r2'⟩
  clear hK K;(try simp only [Act.put,List.setIfInBounds_toArray,List.set_cons_zero,List.set_cons_succ])
  refine wpAnyH_ready (rs:=[13]) (by kernel_rfl) (by simp) ?_;refine (AllReadyH.cons (o:={ dst:=some 139,op:=Op.call { callee:=Callee.value (Operand.func 77),args:=#[Operand.tmp 138],argTypes:=#[40] },type:=2,pos := "heap.go:244",after:=#[{ on:=12,ground:=Ground.data },{ on:=9,ground:=Ground.chain }],guard:=none }) rfl (fun K hK=>?_) AllReadyH.nil);go_simp;refine (num77i _ _ (by assumption) _).mono ?_;rintro e w2 ⟨rfl,rfl⟩;go_wp2_with fail
  refine hK.out _ _ ?_ (fun hHeld=>?_)
  ·first | exact ⟨r0',r1',r2'⟩ | exact ⟨(HSet.out _ _).trans r0',(HSet.out _ _).trans r1',(HSet.out _ _).trans r2'⟩
  clear hK K;(try simp only [Act.put,List.setIfInBounds_toArray,List.set_cons_zero,List.set_cons_succ])
  refine wpAnyH_take (i:=14) (oi:={ dst:=some 140,op:=Op.build 38 #[(0,Operand.const (Value.int IntKind.i64 5)),(3,Operand.tmp 130),(4,Operand.tmp 135),(5,Operand.tmp 139)],type:=38,pos := "heap.go:244",after:=#[{ on:=4,ground:=Ground.data },{ on:=9,ground:=Ground.data },{ on:=13,ground:=Ground.data }],guard:=none }) (v:=?vvA14) rfl (by kernel_rfl) (by kernel_rfl) (by kernel_rfl) (fun _ _ _ h=>h) (Or.inl ⟨by rfl,?hyA14⟩) (by assumption) ?rsA14;case hyA14 =>
   intro w hSw;(try dsimp only at hSw)
   go_simp;(try with_reducible rfl)
  (try simp only [Act.put,List.setIfInBounds_toArray,List.set_cons_zero,List.set_cons_succ])
  refine wpAnyH_ready (rs:=[15]) (by kernel_rfl) (by simp) ?_
  refine (AllReadyH.cons (o:={ dst:=none,op:=Op.store 38 (Operand.tmp 4) (Operand.tmp 140),type:=0,pos := "heap.go:244",after:=#[{ on:=14,ground:=Ground.data },{ on:=13,ground:=Ground.chain },{ on:=0,ground:=Ground.phase },{ on:=1,ground:=Ground.phase },{ on:=2,ground:=Ground.phase },{ on:=3,ground:=Ground.phase },{ on:=4,ground:=Ground.phase },{ on:=5,ground:=Ground.phase },{ on:=6,ground:=Ground.phase },{ on:=7,ground:=Ground.phase },{ on:=8,ground:=Ground.phase },{ on:=9,ground:=Ground.phase },{ on:=10,ground:=Ground.phase },{ on:=11,ground:=Ground.phase },{ on:=12,ground:=Ground.phase },{ on:=13,ground:=Ground.phase },{ on:=14,ground:=Ground.phase }],guard:=none }) rfl (fun K hK=>?_) AllReadyH.nil)
  rw [if_pos (by rfl)];refine wp_store_row 38 (.tmp 4) (.tmp 140) rfl w.heap.size (C9f ⟨5,0,0,nm0,nm1,n2,e0,0⟩ nilV) rfl rfl 38 zC HZd i38 rfl (nine1 _ rfl) ?_
  refine hK.out _ _ ?_ (fun hHeld=>?_)
  ·first | exact ⟨r0',r1',r2'⟩ | exact ⟨(HSet.out _ _).trans r0',(HSet.out _ _).trans r1',(HSet.out _ _).trans r2'⟩
  clear hK K;(try simp only [Act.put,List.setIfInBounds_toArray,List.set_cons_zero,List.set_cons_succ])
  refine wpAnyH_done (by kernel_rfl) ?_ _;go_wp2_with fail;refine bodyPost_ret (v:=aggV ⟨5,0,0,nm0,nm1,n2,e0,0⟩ nilV) (ret_row rfl _ rfl (cs:=encR (⟨5,0,0,nm0,nm1,n2,e0,0⟩,nilV)) rfl (range_blk (setRow_heap _ _ _ _ _ _ HZd))) rfl ⟨rfl,below_setRow HBd.out (Nat.le_refl _) _⟩
 ·go_wp2_with fail;refine (HFx.out _).mono ?_;rintro e w2 ⟨rfl,rfl⟩;go_wp2_with fail;refine wp_loop_rounds 1 ?_;rw [rounds_succ];go_wp2_with fail;have HZd:w1.drew.heap[w.heap.size]? = some (.cells zC 38):=HZ1.out;have HBd:=Lib.hid (belowD HB1.out);have r0':w1.drew.cell? ⟨g,o,none⟩ = some (.int .u64 k0):=r0;have r1':w1.drew.cell? ⟨g,o + 1,none⟩ = some (.int .u64 k1):=r1;have r2':w1.drew.cell? ⟨g,o + 2,none⟩ = some (.int .u64 k2):=r2
  have HSet:Hid (∀ q c,(w1.drew.setRow w.heap.size c).cell? ⟨g,q,none⟩ = w1.drew.cell? ⟨g,q,none⟩):=Lib.hid (fun q c=>World.cell?_of_block (w:=w1.drew) (a:=⟨g,q,none⟩) (setRow_other _ _ _ _ (show g ≠ w.heap.size by have:=HG.out;omega)));clear r0 r1 r2;refine wp_region_held_drew (S:=fun W=>W.cell? ⟨g,o,none⟩ = some (.int .u64 k0)∧W.cell? ⟨g,o + 1,none⟩ = some (.int .u64 k1)∧W.cell? ⟨g,o + 2,none⟩ = some (.int .u64 k2)) (by kernel_rfl) ⟨r0',r1',r2'⟩ (fun hHeld=>?_)
  refine wpAnyH_take (i:=0) (oi:={ dst:=some 126,op:=Op.move (Operand.tmp 0),type:=34,pos := "heap.go:244",after:=#[],guard:=none }) (v:=?vvB0) rfl (by kernel_rfl) (by kernel_rfl) (by kernel_rfl) (fun _ _ _ h=>h) (Or.inl ⟨by rfl,?hyB0⟩) (by assumption) ?rsB0;case hyB0 =>
   intro w hSw;(try dsimp only at hSw)
   go_simp;(try with_reducible rfl)
  (try simp only [Act.put,List.setIfInBounds_toArray,List.set_cons_zero,List.set_cons_succ])
  refine wpAnyH_take (i:=1) (oi:={ dst:=some 127,op:=Op.move (Operand.tmp 10),type:=22,pos := "heap.go:244",after:=#[],guard:=none }) (v:=?vvB1) rfl (by kernel_rfl) (by kernel_rfl) (by kernel_rfl) (fun _ _ _ h=>h) (Or.inl ⟨by rfl,?hyB1⟩) (by assumption) ?rsB1;case hyB1 =>
   intro w hSw;(try dsimp only at hSw)
   go_simp;(try with_reducible rfl)
  (try simp only [Act.put,List.setIfInBounds_toArray,List.set_cons_zero,List.set_cons_succ])
  refine wpAnyH_take (i:=2) (oi:={ dst:=some 128,op:=Op.indexAddr 22 (Operand.tmp 127) (Operand.const (Value.int IntKind.i64 0)),type:=0,pos := "heap.go:244",after:=#[{ on:=1,ground:=Ground.data }],guard:=none }) (v:=?vvB2) rfl (by kernel_rfl) (by kernel_rfl) (by kernel_rfl) (fun _ _ _ h=>h) (Or.inl ⟨by rfl,?hyB2⟩) (by assumption) ?rsB2;case hyB2 =>
   intro w hSw;(try dsimp only at hSw)
   go_simp;(try with_reducible rfl)
  (try simp only [Act.put,List.setIfInBounds_toArray,List.set_cons_zero,List.set_cons_succ])
  refine wpAnyH_take (i:=3) (oi:={ dst:=some 129,op:=Op.load 40 (Operand.tmp 128),type:=40,pos := "heap.go:244",after:=#[{ on:=2,ground:=Ground.data }],guard:=none }) (v:=?vvB3) rfl (by kernel_rfl) (by kernel_rfl) (by kernel_rfl) (fun _ _ _ h=>h) (Or.inl ⟨by rfl,?hyB3⟩) (by assumption) ?rsB3;case hyB3 =>
   intro w hSw;(try dsimp only at hSw)
   go_simp;(try with_reducible rfl)
  (try simp only [Act.put,List.setIfInBounds_toArray,List.set_cons_zero,List.set_cons_succ])
  refine wpAnyH_take (i:=5) (oi:={ dst:=some 131,op:=Op.move (Operand.tmp 0),type:=34,pos := "heap.go:244",after:=#[],guard:=none }) (v:=?vvB5) rfl (by kernel_rfl) (by kernel_rfl) (by kernel_rfl) (fun _ _ _ h=>h) (Or.inl ⟨by rfl,?hyB5⟩) (by assumption) ?rsB5;case hyB5 =>
   intro w hSw;(try dsimp only at hSw)
   go_simp;(try with_reducible rfl)
  (try simp only [Act.put,List.setIfInBounds_toArray,List.set_cons_zero,List.set_cons_succ])
  refine wpAnyH_take (i:=6) (oi:={ dst:=some 132,op:=Op.move (Operand.tmp 10),type:=22,pos := "heap.go:244",after:=#[],guard:=none }) (v:=?vvB6) rfl (by kernel_rfl) (by kernel_rfl) (by kernel_rfl) (fun _ _ _ h=>h) (Or.inl ⟨by rfl,?hyB6⟩) (by assumption) ?rsB6;case hyB6 =>
   intro w hSw;(try dsimp only at hSw)
   go_simp;(try with_reducible rfl)
  (try simp only [Act.put,List.setIfInBounds_toArray,List.set_cons_zero,List.set_cons_succ])
  refine wpAnyH_take (i:=7) (oi:={ dst:=some 133,op:=Op.indexAddr 22 (Operand.tmp 132) (Operand.const (Value.int IntKind.i64 1)),type:=0,pos := "heap.go:244",after:=#[{ on:=6,ground:=Ground.data }],guard:=none }) (v:=?vvB7) rfl (by kernel_rfl) (by kernel_rfl) (by kernel_rfl) (fun _ _ _ h=>h) (Or.inl ⟨by rfl,?hyB7⟩) (by assumption) ?rsB7;case hyB7 =>
   intro w hSw;(try dsimp only at hSw)
   go_simp;(try with_reducible rfl)
  (try simp only [Act.put,List.setIfInBounds_toArray,List.set_cons_zero,List.set_cons_succ])
  refine wpAnyH_take (i:=8) (oi:={ dst:=some 134,op:=Op.load 40 (Operand.tmp 133),type:=40,pos := "heap.go:244",after:=#[{ on:=7,ground:=Ground.data }],guard:=none }) (v:=?vvB8) rfl (by kernel_rfl) (by kernel_rfl) (by kernel_rfl) (fun _ _ _ h=>h) (Or.inl ⟨by rfl,?hyB8⟩) (by assumption) ?rsB8;case hyB8 =>
   intro w hSw;(try dsimp only at hSw)
   go_simp;(try with_reducible rfl)
  (try simp only [Act.put,List.setIfInBounds_toArray,List.set_cons_zero,List.set_cons_succ])
  refine wpAnyH_take (i:=10) (oi:={ dst:=some 136,op:=Op.move (Operand.tmp 10),type:=22,pos := "heap.go:244",after:=#[],guard:=none }) (v:=?vvB10) rfl (by kernel_rfl) (by kernel_rfl) (by kernel_rfl) (fun _ _ _ h=>h) (Or.inl ⟨by rfl,?hyB10⟩) (by assumption) ?rsB10;case hyB10 =>
   intro w hSw;(try dsimp only at hSw)
   go_simp;(try with_reducible rfl)
  (try simp only [Act.put,List.setIfInBounds_toArray,List.set_cons_zero,List.set_cons_succ])
  refine wpAnyH_take (i:=11) (oi:={ dst:=some 137,op:=Op.indexAddr 22 (Operand.tmp 136) (Operand.const (Value.int IntKind.i64 2)),type:=0,pos := "heap.go:244",after:=#[{ on:=10,ground:=Ground.data }],guard:=none }) (v:=?vvB11) rfl (by kernel_rfl) (by kernel_rfl) (by kernel_rfl) (fun _ _ _ h=>h) (Or.inl ⟨by rfl,?hyB11⟩) (by assumption) ?rsB11;case hyB11 =>
   intro w hSw;(try dsimp only at hSw)
   go_simp;(try with_reducible rfl)
  (try simp only [Act.put,List.setIfInBounds_toArray,List.set_cons_zero,List.set_cons_succ])
  refine wpAnyH_take (i:=12) (oi:={ dst:=some 138,op:=Op.load 40 (Operand.tmp 137),type:=40,pos := "heap.go:244",after:=#[{ on:=11,ground:=Ground.data }],guard:=none }) (v:=?vvB12) rfl (by kernel_rfl) (by kernel_rfl) (by kernel_rfl) (fun _ _ _ h=>h) (Or.inl ⟨by rfl,?hyB12⟩) (by assumption) ?rsB12;case hyB12 =>
   intro w hSw;(try dsimp only at hSw)
   go_simp;(try with_reducible rfl)
  (try simp only [Act.put,List.setIfInBounds_toArray,List.set_cons_zero,List.set_cons_succ])
  refine wpAnyH_ready (rs:=[4]) (by kernel_rfl) (by simp) ?_;refine (AllReadyH.cons (o:={ dst:=some 130,op:=Op.call { callee:=Callee.value (Operand.func 154),args:=#[Operand.tmp 126,Operand.tmp 129],argTypes:=#[34,40] },type:=9,pos := "heap.go:244",after:=#[{ on:=0,ground:=Ground.data },{ on:=3,ground:=Ground.data }],guard:=none }) rfl (fun K hK=>?_) AllReadyH.nil);go_simp;refine (HN0.out _ HBd.out).mono ?_;rintro e w2 ⟨rfl,rfl⟩;go_wp2_with fail
  refine hK.out _ _ ?_ (fun hHeld=>?_)
  ·first | exact ⟨r0',r1',r2'⟩ | exact ⟨(HSet.out _ _).trans r0',(HSet.out _ _).trans r1',(HSet.out _ _).trans r2'⟩
  clear hK K;(try simp only [Act.put,List.setIfInBounds_toArray,List.set_cons_zero,List.set_cons_succ])
  refine wpAnyH_ready (rs:=[9]) (by kernel_rfl) (by simp) ?_;refine (AllReadyH.cons (o:={ dst:=some 135,op:=Op.call { callee:=Callee.value (Operand.func 154),args:=#[Operand.tmp 131,Operand.tmp 134],argTypes:=#[34,40] },type:=9,pos := "heap.go:244",after:=#[{ on:=5,ground:=Ground.data },{ on:=8,ground:=Ground.data },{ on:=4,ground:=Ground.chain }],guard:=none }) rfl (fun K hK=>?_) AllReadyH.nil);go_simp;refine (HN1.out _ HBd.out).mono ?_;rintro e w2 ⟨rfl,rfl⟩;go_wp2_with fail
  refine hK.out _ _ ?_ (fun hHeld=>?_)
  ·first | exact ⟨r0',r1',r2'⟩ | exact ⟨(HSet.out _ _).trans r0',(HSet.out _ _).trans r1',(HSet.out _ _).trans r2'⟩
  clear hK K;(try simp only [Act.put,List.setIfInBounds_toArray,List.set_cons_zero,List.set_cons_succ])
  refine wpAnyH_ready (rs:=[13]) (by kernel_rfl) (by simp) ?_;refine (AllReadyH.cons (o:={ dst:=some 139,op:=Op.call { callee:=Callee.value (Operand.func 77),args:=#[Operand.tmp 138],argTypes:=#[40] },type:=2,pos := "heap.go:244",after:=#[{ on:=12,ground:=Ground.data },{ on:=9,ground:=Ground.chain }],guard:=none }) rfl (fun K hK=>?_) AllReadyH.nil);go_simp;refine (num77i _ _ (by assumption) _).mono ?_;rintro e w2 ⟨rfl,rfl⟩;go_wp2_with fail
  refine hK.out _ _ ?_ (fun hHeld=>?_)
  ·first | exact ⟨r0',r1',r2'⟩ | exact ⟨(HSet.out _ _).trans r0',(HSet.out _ _).trans r1',(HSet.out _ _).trans r2'⟩
  clear hK K;(try simp only [Act.put,List.setIfInBounds_toArray,List.set_cons_zero,List.set_cons_succ])
  refine wpAnyH_take (i:=14) (oi:={ dst:=some 140,op:=Op.build 38 #[(0,Operand.const (Value.int IntKind.i64 5)),(3,Operand.tmp 130),(4,Operand.tmp 135),(5,Operand.tmp 139)],type:=38,pos := "heap.go:244",after:=#[{ on:=4,ground:=Ground.data },{ on:=9,ground:=Ground.data },{ on:=13,ground:=Ground.data }],guard:=none }) (v:=?vvB14) rfl (by kernel_rfl) (by kernel_rfl) (by kernel_rfl) (fun _ _ _ h=>h) (Or.inl ⟨by rfl,?hyB14⟩) (by assumption) ?rsB14;case hyB14 =>
   intro w hSw;(try dsimp only at hSw)
   go_simp;(try with_reducible rfl)
  (try simp only [Act.put,List.setIfInBounds_toArray,List.set_cons_zero,List.set_cons_succ])
  refine wpAnyH_ready (rs:=[15]) (by kernel_rfl) (by simp) ?_
  refine (AllReadyH.cons (o:={ dst:=none,op:=Op.store 38 (Operand.tmp 4) (Operand.tmp 140),type:=0,pos := "heap.go:244",after:=#[{ on:=14,ground:=Ground.data },{ on:=13,ground:=Ground.chain },{ on:=0,ground:=Ground.phase },{ on:=1,ground:=Ground.phase },{ on:=2,ground:=Ground.phase },{ on:=3,ground:=Ground.phase },{ on:=4,ground:=Ground.phase },{ on:=5,ground:=Ground.phase },{ on:=6,ground:=Ground.phase },{ on:=7,ground:=Ground.phase },{ on:=8,ground:=Ground.phase },{ on:=9,ground:=Ground.phase },{ on:=10,ground:=Ground.phase },{ on:=11,ground:=Ground.phase },{ on:=12,ground:=Ground.phase },{ on:=13,ground:=Ground.phase },{ on:=14,ground:=Ground.phase }],guard:=none }) rfl (fun K hK=>?_) AllReadyH.nil)
  rw [if_pos (by rfl)];refine wp_store_row 38 (.tmp 4) (.tmp 140) rfl w.heap.size (C9f ⟨5,0,0,nm0,nm1,n2,e0,0⟩ nilV) rfl rfl 38 zC HZd i38 rfl (nine1 _ rfl) ?_
  refine hK.out _ _ ?_ (fun hHeld=>?_)
  ·first | exact ⟨r0',r1',r2'⟩ | exact ⟨(HSet.out _ _).trans r0',(HSet.out _ _).trans r1',(HSet.out _ _).trans r2'⟩
  clear hK K;(try simp only [Act.put,List.setIfInBounds_toArray,List.set_cons_zero,List.set_cons_succ])
  refine wpAnyH_done (by kernel_rfl) ?_ _;go_wp2_with fail;refine bodyPost_ret (v:=aggV ⟨5,0,0,nm0,nm1,n2,e0,0⟩ nilV) (ret_row rfl _ rfl (cs:=encR (⟨5,0,0,nm0,nm1,n2,e0,0⟩,nilV)) rfl (range_blk (setRow_heap _ _ _ _ _ _ HZd))) rfl ⟨rfl,below_setRow HBd.out (Nat.le_refl _) _⟩
end
end Go.Proofs.YtpnlnbolhkcnjaaGreat.hp
