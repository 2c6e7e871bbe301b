/- HpC,HpD,HpE. No condition beyond theirs. -/
import Derived.Test.YtpnlnbolhkcnjaaGreatK12
import Derived.Deep.Cut
import Derived.Deep.MidRow
import Derived.LoopN
set_option linter.unusedSimpArgs false
set_option linter.unusedVariables false
set_option maxHeartbeats 4000000
set_option maxRecDepth 100000
namespace Go.Proofs.YtpnlnbolhkcnjaaGreat.hp
open Go.RowKit mem words rec
def HB (z:Nat) (vY vF:Value) (k:Nat):Prop:=k = z∨vY.ownBlock = some k∨vF.ownBlock = some k
def Step (B z a b:Nat) (c:Int) (vY vF:Value) (w:World) (Y':List Int) (F':List Bool) (w':World):Prop :=
 ∃ vY' vF',HA w' B z a b c vY' vF' Y' F'∧TouchB (HB z vY vF) w w'∧(∀ k,HB z vY' vF' k→k < w.heap.size→HB z vY vF k)
def mk2 (n:Nat):List Bool:=true :: List.replicate (n - 1) false
theorem blk_set {W:World} {z i:Nat} {cs:Array Value} {t:TypeId} (h:W.heap[z]? = some (.cells cs t)) (u:Value):(W.setCell ⟨z,i,none⟩ u).heap[z]? = some (.cells (cs.setIfInBounds i u) t):=heap_setCell_same W z i cs t u h
theorem blk_oth (W:World) (z i:Nat) (u:Value) {k:Nat} (hk:k ≠ z):(W.setCell ⟨z,i,none⟩ u).heap[k]? = W.heap[k]?:=Below.heap_setCell W ⟨z,i,none⟩ u k hk
theorem HA.le {w:World} {B z a b:Nat} {c:Int} {vY vF:Value} {Y:List Int} {F:List Bool} (h:HA w B z a b c vY vF Y F):B ≤ w.heap.size:=by
 have:=(Array.getElem?_eq_some_iff.1 h.blk).1;have:=h.hz;omega
theorem HA.ne {w:World} {B z a b:Nat} {c:Int} {vY vF:Value} {Y:List Int} {F:List Bool} (h:HA w B z a b c vY vF Y F):vY.ownBlock ≠ some z∧vF.ownBlock ≠ some z∧∀ k,vY.ownBlock = some k→vF.ownBlock ≠ some k:=by
 have hy:∀ k,vY.ownBlock = some k→∃ cs fz,w.heap[k]? = some (.cells cs 40 fz):=fun k hk=>by
  rcases h.y.2 with ⟨rfl,_⟩ | ⟨g,cap,cur,rfl,_,hg,_⟩
  ·simp [Value.ownBlock] at hk
  ·simp only [Value.ownBlock,Option.some.injEq] at hk;subst hk;exact ⟨_,_,hg⟩
 have hf:∀ k,vF.ownBlock = some k→∃ cs fz,w.heap[k]? = some (.cells cs 4 fz):=fun k hk=>by
  rcases h.f.2 with ⟨rfl,_⟩ | ⟨g,cap,cur,rfl,_,hg,_⟩
  ·simp [Value.ownBlock] at hk
  ·simp only [Value.ownBlock,Option.some.injEq] at hk;subst hk;exact ⟨_,_,hg⟩
 refine ⟨fun e=>?_,fun e=>?_,fun k e e'=>?_⟩
 ·obtain ⟨cs,fz,hc⟩:=hy z e;rw [h.blk] at hc;simp at hc
 ·obtain ⟨cs,fz,hc⟩:=hf z e;rw [h.blk] at hc;simp at hc
 ·obtain ⟨cs,fz,hc⟩:=hy k e;obtain ⟨cs',fz',hc'⟩:=hf k e';rw [hc] at hc';simp at hc'
theorem wpList_append_flags {w:World} {ops:Array Oper} {rest:List Oper} {o:Oper} {a:Act} {Q:Exit→Act→World→Prop} (hgd:o.guard = none) (x y:Operand)
 (ho:o.op = .call { callee:=.builtin .append,args:=#[x,y],argTypes:=#[99,3] }) {base:Nat} {v:Value} {F:List Bool} (hs:a.eval x = v) (hown:RecOwn encF 4 1 w base v F) (hb:base ≤ w.heap.size)
 {k:Nat} (hx:a.eval y = .int .i64 k) (hk:0 < k) (hn:F.length + k ≤ 1000000)
 (h:∀ v' w',AppR encF 4 1 w base v F (List.replicate k false) v' w'→wpList Tryz.prog ops Q rest (a.put o.dst v') w'):wpList Tryz.prog ops Q (o :: rest) a w:=by
 refine wpList_plain hgd fun K hK=>?_;obtain ⟨v',w',hr,h2⟩:=run_append_flags hown hb o.type k hk hn;unfold Oper.wp execOp;simp only [ho,resolve,invoke,builtin,Sem.run_bind,Sem.run_pure,Result.andThen_ok,List.map_toArray,List.map_cons,List.map_nil,hs,hx,hr];exact hK _ _ (h v' w' h2)
theorem flat_map:∀ l:List Bool,l.flatMap encF = l.map Value.bool
 | []=>rfl
 | x :: r=>by rw [List.flatMap_cons,List.map_cons,flat_map r];rfl
theorem set_flags (F:List Bool) (k:Nat) (hk:0 < k):(F ++ List.replicate k false).set F.length true = F ++ mk2 k:=by
 obtain ⟨j,rfl⟩:∃ j,k = j + 1:=⟨k - 1,by omega⟩;rw [List.set_append_right (h:=Nat.le_refl _),Nat.sub_self,List.replicate_succ];simp [mk2]
theorem add_step {w w1 w3:World} {B z a b:Nat} {c:Int} {vY vF v1 v3:Value} {Y xs:List Int} {F:List Bool} (h:HA w B z a b c vY vF Y F) (hYF:F.length = Y.length) {k:Nat} (hk:0 < k) (hkx:k = xs.length)
 (hA1:AppR encW 40 1 w B vY Y xs v1 w1) (hA3:AppR encF 4 1 (w1.setCell ⟨z,0,none⟩ v1) B vF F (List.replicate k false) v3 w3) {g n cp:Nat} (hv3:v3 = .slice (some ⟨g,0,none⟩) n cp) :
 Step B z a b c vY vF w (Y ++ xs) (F ++ mk2 k) ((w3.setCell ⟨z,1,none⟩ v3).setCell ⟨g,Y.length,none⟩ (.bool true)):=by
 subst hv3;obtain ⟨n1,n2,n3⟩:=h.ne;have hzl:=(Array.getElem?_eq_some_iff.1 h.blk).1;have hz1:w1.heap[z]? = some (.cells (hcells vY vF c a b) 124):=(hA1.other hzl n1).trans h.blk;have hz2:=blk_set (i:=0) hz1 v1;have hs1:w.heap.size ≤ w1.heap.size:=hA1.grown.size;have hs2:(w1.setCell ⟨z,0,none⟩ v1).heap.size = w1.heap.size:=World.size_setCell _ _ _;have hs3:w1.heap.size ≤ w3.heap.size:=by have:=hA3.grown.size;rwa [hs2] at this
 have hz3:=(hA3.other (k:=z) (by rw [hs2];omega) n2).trans hz2;have fz1:w3.frozen? ⟨z,1,none⟩ = false:=frozen_of_row w3 z 1 _ _ hz3;have hz4:=blk_set (i:=1) hz3 (.slice (some ⟨g,0,none⟩) n cp);have hv1z:v1.ownBlock ≠ some z:=hA1.place hzl n1;have hv3z:(Value.slice (some ⟨g,0,none⟩) n cp).ownBlock ≠ some z:=hA3.place (by rw [hs2];omega) n2;have hgz:g ≠ z:=fun e=>hv3z (by rw [e];rfl);have hy1:∀ q,v1.ownBlock = some q→q < w1.heap.size:=fun q hq=>(hA1.own.lt hq).2;have hv1g:v1.ownBlock ≠ some g:=fun e=>by
  have hl:=hy1 g e
  rcases hA3.at_ with h1 | h1
  ·have e2:vF.ownBlock = some g:=by rw [← h1];rfl
   have:=hA1.place ((h.f.lt e2).2) (fun q=>n3 _ q e2);exact this e
  ·rw [hs2] at h1;have:g = w1.heap.size:=Option.some.inj h1;omega
 have hn:n = (F ++ List.replicate k false).length:=by
  obtain ⟨p,c',e,_,_⟩:=hA3.own.shape;simp only [Value.slice.injEq] at e;exact e.2.1
 have hst:=(World.ownsRow.stored (w:=w3.setCell ⟨z,1,none⟩ (.slice (some ⟨g,0,none⟩) n cp)) (g:=g) (n:=n) (cap:=cp) (by
  have:=hA3.own.same (w':=w3.setCell ⟨z,1,none⟩ (.slice (some ⟨g,0,none⟩) n cp)) (fun q hq=>blk_oth _ _ _ _ (fun e=>hv3z (e ▸ hq)))
  unfold RecOwn at this
  rw [← hn] at this
  exact this) Y.length (.bool true)).1
 have hother:∀ q,q ≠ g→q ≠ z→((w3.setCell ⟨z,1,none⟩ (.slice (some ⟨g,0,none⟩) n cp)).setCell ⟨g,Y.length,none⟩ (.bool true)).heap[q]? = w3.heap[q]?:=fun q h1 h2=>(blk_oth _ _ _ _ h1).trans (blk_oth _ _ _ _ h2)
 refine ⟨v1,.slice (some ⟨g,0,none⟩) n cp,⟨(blk_oth _ _ _ _ (Ne.symm hgz)).trans hz4,hA1.own.same fun q hq=>?_,?_,h.hz⟩,?_,?_⟩
 ·have hqz:q ≠ z:=fun e=>hv1z (e ▸ hq);have hqg:q ≠ g:=fun e=>hv1g (e ▸ hq);refine (hother q hqg hqz).trans ((hA3.other (by rw [hs2];exact hy1 q hq) (fun e=>?_)).trans (blk_oth _ _ _ _ hqz));exact hA1.place ((h.f.lt e).2) (fun q'=>n3 _ q' e) hq
 ·unfold RecOwn;have e1:(F ++ mk2 k).length = n:=by rw [hn,← set_flags F k hk,List.length_set]
  have e2:(F ++ mk2 k).flatMap encF = ((F ++ List.replicate k false).flatMap encF).set Y.length (.bool true):=by
   rw [← set_flags F k hk,flat_map,flat_map,List.map_set,hYF]
  rw [e1,e2];exact hst
 ·have t1:TouchB (HB z vY vF) w w1:=hA1.touch (TouchB.refl _ _) (fun q hq _=>.inr (.inl hq));have t2:=t1.setCell ⟨z,0,none⟩ v1 (fun _=>.inl rfl);have t3:=hA3.touch t2 (fun q hq _=>.inr (.inr hq));have t4:=t3.setCell ⟨z,1,none⟩ (.slice (some ⟨g,0,none⟩) n cp) (fun _=>.inl rfl);refine t4.setCell ⟨g,Y.length,none⟩ (.bool true) (fun hg=>?_)
  rcases hA3.at_ with h1 | h1
  ·exact .inr (.inr (by rw [← h1];rfl))
  ·rw [hs2] at h1;have:g = w1.heap.size:=Option.some.inj h1;exfalso;have hg':g < w.heap.size:=hg;omega
 ·rintro q (rfl | hq | hq) hlt
  ·exact .inl rfl
  ·refine .inr (.inl ?_)
   rcases hA1.at_ with h1 | h1
   ·rwa [h1] at hq
   ·rw [h1] at hq;have:=Option.some.inj hq;omega
  ·refine .inr (.inr ?_)
   rcases hA3.at_ with h1 | h1
   ·rwa [h1] at hq
   ·rw [h1,hs2] at hq;have:=Option.some.inj hq;omega
def AddP (B z a b:Nat) (c:Int) (vY vF:Value) (Y xs:List Int) (F:List Bool) (w:World) (e:Ending) (w':World):Prop :=
 e = .returned (.int .i64 Y.length)∧Step B z a b c vY vF w (Y ++ xs) (F ++ mk2 xs.length) w'
theorem add149 {w:World} {B z a b:Nat} {c:Int} {vY vF:Value} {Y:List Int} {F:List Bool} (h:HA w B z a b c vY vF Y F) (hYF:F.length = Y.length) {Bx:Nat} {vx:Value} {xs:List Int} (hx:RecAt encW 1 w Bx vx xs) (hx0:xs ≠ []) (hl:Y.length + xs.length ≤ 1000000) :
 Calls Tryz.prog 149 #[.pointer (some ⟨z,0,none⟩),vx] w (AddP B z a b c vY vF Y xs F w):=by
 obtain ⟨n1,n2,n3⟩:=h.ne;have hzl:=(Array.getElem?_eq_some_iff.1 h.blk).1;have hB:=h.le;obtain ⟨py,cy,ey,hyc,_⟩:=h.y.shape;obtain ⟨pf,cf,ef,hfc,_⟩:=h.f.shape;obtain ⟨px,cx,ex,hxc,_⟩:=hx.shape;have c0:w.cell? ⟨z,0,none⟩ = some vY:=(cell_of_blk h.blk).trans rfl;have HH:=Lib.hid h;have HX:=Lib.hid hx;have HN:=Lib.hid (⟨n1,n2,n3⟩:vY.ownBlock ≠ some z∧vF.ownBlock ≠ some z∧∀ k,vY.ownBlock = some k→vF.ownBlock ≠ some k);have HC:=Lib.hid (⟨hzl,hB,hYF,hx0,hl⟩:z < w.heap.size∧B ≤ w.heap.size∧F.length = Y.length∧xs ≠ []∧Y.length + xs.length ≤ 1000000);clear h hx n1 n2 n3 hzl hB hYF hx0 hl hyc hfc hxc
 subst ey;subst ef;subst ex;go_enter Tryz.func149,Tryz.ntmps149;go_wp2_with (refine wpList_append_rec (enc:=encW) elW rfl (.tmp 15) (.tmp 16) rfl rfl (base:=B) (l:=Y) HH.out.y HC.out.2.1 (B:=Bx) (xs:=xs) rfl HX.out (encW_ok _) (Nat.le_trans HC.out.2.2.2.2 (by decide)) ?_)
 intro v1 w1 hA1;obtain ⟨p1,c1,e1,_,_⟩:=hA1.own.shape;have hz1:w1.heap[z]? = some (.cells (hcells (.slice py Y.length cy) (.slice pf F.length cf) c a b) 124):=(hA1.other HC.out.1 HN.out.1).trans HH.out.blk;have d0:w1.cell? ⟨z,0,none⟩ = some (.slice py Y.length cy):=(cell_of_blk hz1).trans rfl;have fz0:w1.frozen? ⟨z,0,none⟩ = false:=frozen_of_row w1 z 0 _ _ hz1;have HA1:=Lib.hid hA1;have hz2:=Lib.hid (blk_set (i:=0) hz1 v1);clear c0 hz1 hA1;rw [List.length_append] at e1;subst e1;go_upto_region 3 with (fail)
 have hf2:=Lib.hid (HH.out.f.same (w':=w1.setCell ⟨z,0,none⟩ (.slice p1 (Y.length + xs.length) c1)) (fun q hq=>(blk_oth _ _ _ _ (fun e=>HN.out.2.1 (by rw [← e];exact hq))).trans (HA1.out.other ((HH.out.f.lt hq).2) (fun e=>HN.out.2.2 q e hq))));have hB2:Hid (B ≤ (w1.setCell ⟨z,0,none⟩ (.slice p1 (Y.length + xs.length) c1)).heap.size):=Lib.hid (by rw [World.size_setCell];exact Nat.le_trans HC.out.2.1 HA1.out.grown.size);have d1:(w1.setCell ⟨z,0,none⟩ (.slice p1 (Y.length + xs.length) c1)).cell? ⟨z,1,none⟩ = some (.slice pf F.length cf):=(cell_of_blk hz2.out).trans rfl
 have d0':(w1.setCell ⟨z,0,none⟩ (.slice p1 (Y.length + xs.length) c1)).heap.size = w1.heap.size:=World.size_setCell _ _ _;have HS:=Lib.hid (fun v3 w3 (h:AppR encF 4 1 (w1.setCell ⟨z,0,none⟩ (.slice p1 (Y.length + xs.length) c1)) B (.slice pf F.length cf) F (List.replicate xs.length false) v3 w3) (g n cp:Nat) (hv:v3 = .slice (some ⟨g,0,none⟩) n cp)=>add_step HH.out HC.out.2.2.1 (List.length_pos_iff.2 HC.out.2.2.2.1) rfl HA1.out h hv);clear d0 d0' fz0;generalize hW2:w1.setCell ⟨z,0,none⟩ (.slice p1 (Y.length + xs.length) c1) = w2 at *
 have hk0:Hid (0 < xs.length):=Lib.hid (List.length_pos_iff.2 HC.out.2.2.2.1);have hn0:F.length + xs.length ≤ 1000000:=by rw [HC.out.2.2.1];exact HC.out.2.2.2.2
 go_wp2_with (refine wpList_append_flags (F:=F) (base:=B) (k:=xs.length) rfl (.tmp 24) (.tmp 26) rfl rfl hf2.out hB2.out rfl hk0.out hn0 ?_)
 clear hn0;intro v3 w3 hA3;obtain ⟨g,n,cp,ev⟩:∃ g n cp,v3 = .slice (some ⟨g,0,none⟩) n cp:=by
  rcases hA3.own.2 with ⟨e,hF⟩ | ⟨g,cap,cur,e,_⟩
  ·have h0:=hk0.out;rw [List.length_append,List.length_replicate] at hF;omega
  ·exact ⟨_,_,_,e⟩
 obtain rfl:n = F.length + xs.length:=by
  obtain ⟨p,c',e,_,_⟩:=hA3.own.shape;rw [ev] at e;simp only [Value.slice.injEq,List.length_append,List.length_replicate] at e;exact e.2.1
 subst ev;have hz3:w3.heap[z]? = some (.cells (hcells (.slice p1 (Y.length + xs.length) c1) (.slice pf F.length cf) c a b) 124):=(hA3.other (k:=z) (by rw [← hW2,World.size_setCell];exact Nat.lt_of_lt_of_le HC.out.1 HA1.out.grown.size) HN.out.2.1).trans hz2.out;have e1:w3.cell? ⟨z,1,none⟩ = some (.slice pf F.length cf):=(cell_of_blk hz3).trans rfl;have fz1:w3.frozen? ⟨z,1,none⟩ = false:=frozen_of_row w3 z 1 _ _ hz3;have hz4:=blk_set (i:=1) hz3 (.slice (some ⟨g,0,none⟩) (F.length + xs.length) cp)
 have f1:(w3.setCell ⟨z,1,none⟩ (.slice (some ⟨g,0,none⟩) (F.length + xs.length) cp)).cell? ⟨z,1,none⟩ = some (.slice (some ⟨g,0,none⟩) (F.length + xs.length) cp):=(cell_of_blk hz4).trans rfl;have hgz:g ≠ z:=fun e=>hA3.place (k:=z) (by rw [← hW2,World.size_setCell];exact Nat.lt_of_lt_of_le HC.out.1 HA1.out.grown.size) HN.out.2.1 (by rw [e];rfl);have hown:=hA3.own.same (w':=w3.setCell ⟨z,1,none⟩ (.slice (some ⟨g,0,none⟩) (F.length + xs.length) cp)) (fun q hq=>blk_oth _ _ _ _ (fun e=>hgz (by have h1:g = q:=Option.some.inj hq;omega)))
 have f2:(w3.setCell ⟨z,1,none⟩ (.slice (some ⟨g,0,none⟩) (F.length + xs.length) cp)).cell? ⟨g,Y.length,none⟩ = some (.bool false):=by
  have h:=World.ownsRow.cellAt (n:=F.length + xs.length) (by unfold RecOwn at hown;rw [List.length_append,List.length_replicate] at hown;exact hown) Y.length (by have:=hk0.out;have:=HC.out.2.2.1;simp;omega);rw [h,flat_map,List.getElem?_map,← HC.out.2.2.1,List.getElem?_append_right (Nat.le_refl _),Nat.sub_self,List.getElem?_replicate,if_pos hk0.out];rfl
 have f3:(w3.setCell ⟨z,1,none⟩ (.slice (some ⟨g,0,none⟩) (F.length + xs.length) cp)).frozen? ⟨g,Y.length,none⟩ = false:=World.ownsRow.frozenAt (n:=F.length + xs.length) (by unfold RecOwn at hown;rw [List.length_append,List.length_replicate] at hown;exact hown) _;have hlt:Y.length < F.length + xs.length:=by have:=hk0.out;have:=HC.out.2.2.1;omega
 have HR:=Lib.hid (HS.out _ _ hA3 g (F.length + xs.length) cp rfl);clear hA3 hown hz3 hz4 HS;go_upto_region 4 with (fail);clear e1 fz1;generalize w3.setCell ⟨z,1,none⟩ (.slice (some ⟨g,0,none⟩) (F.length + xs.length) cp) = w4 at *;have hl1:decide ((Y.length:Int) < ((F.length + xs.length:Nat):Int)) = true:=decide_eq_true (by omega);have hl0:decide ((0:Int) ≤ Y.length) = true:=decide_eq_true (by omega);go_wp2_with fail;go_ret;exact ⟨rfl,HR.out⟩
theorem Step.of_below {B z a b:Nat} {c:Int} {vY vF:Value} {w w1 w':World} {Y':List Int} {F':List Bool} (hb:Below w.heap.size w w1) (h:Step B z a b c vY vF w1 Y' F' w'):Step B z a b c vY vF w Y' F' w':=by
 obtain ⟨vY',vF',h1,h2,h3⟩:=h;refine ⟨vY',vF',h1,((TouchB.refl _ w).ofBelow hb (Nat.le_refl _)).trans h2 (fun i _ hi=>hi),fun k hk hl=>h3 k hk (Nat.lt_of_lt_of_le hl hb.size)⟩
def CellP (B z a b:Nat) (c:Int) (vY vF:Value) (Y:List Int) (F:List Bool) (x1 x2:Int) (w:World) (e:Ending) (w':World):Prop :=
 e = .returned (.int .u64 (ptrW 1 false Y.length))∧Step B z a b c vY vF w (Y ++ [x1,x2]) (F ++ [true,false]) w'
theorem cell100 {w:World} {B z a b:Nat} {c:Int} {vY vF:Value} {Y:List Int} {F:List Bool} (h:HA w B z a b c vY vF Y F) (hYF:F.length = Y.length) (x1 x2:Int) (hl:Y.length + 2 ≤ 1000000) :
 Calls Tryz.prog 100 #[.pointer (some ⟨z,0,none⟩),.int .u64 x1,.int .u64 x2] w (CellP B z a b c vY vF Y F x1 x2 w):=by
 have hb:Below w.heap.size w (w.alloc (.cells #[.int .u64 x1,.int .u64 x2] 40)):=belowA (Below.refl _ w) _
 have hx:RecAt encW 1 (w.alloc (.cells #[.int .u64 x1,.int .u64 x2] 40)) (w.heap.size + 1) (.slice (some ⟨w.heap.size,0,none⟩) 2 2) [x1,x2] :=
  RecAt.fresh (encW_ok [x1,x2]) (by decide) (heap_alloc_new w _) (Nat.le_refl 2) (by unfold maxLen;omega)
 have HAd:=Lib.hid (add149 (h.below hb) hYF hx (by simp) hl);have HL:=Lib.hid (fun W=>words.List false (Y.length:Int) W);have HB:=Lib.hid hb;clear h hYF hl hb hx;go_enter Tryz.func100,Tryz.ntmps100;go_wp2_with fail;refine HAd.out.mono ?_;rintro e w1 ⟨rfl,hS⟩;have HS:=Lib.hid hS;clear hS HAd;go_wp2_with fail;refine (HL.out _).mono ?_;rintro e w2 ⟨rfl,rfl⟩;go_wp2_with fail;go_ret;exact ⟨rfl,HS.out.of_below HB.out⟩
theorem integer97 (w:World) (p:Option Addr) (n:Int) (h0:-9223372036854775808 ≤ n) (h1:n ≤ 9223372036854775807) (hs:smallOk n = true) :
 Calls Tryz.prog 97 #[.pointer p,.int .i64 n] w fun e w'=>e = .returned (.int .u64 (smallW n))∧w = w':=by
 have HS:=Lib.hid (fun W=>words.Small n h0 h1 W);clear h0 h1;go_enter Tryz.func97,Tryz.ntmps97;go_wp2_with fail;refine (HS.out _).mono ?_;rintro e w' ⟨rfl,rfl⟩;go_wp2_with fail;go_ret;exact ⟨rfl,rfl⟩
def mkc (k:Nat):Array Value:=madeCells (Value.int .u64 0).cells k
theorem mkc_size (k:Nat):(mkc k).size = k:=by unfold mkc;rw [size_madeCells]
theorem mk22 (W:World) (k:Nat) (hk:k ≤ 100000):(Instr.makeSlice 22 (.int .i64 0) (.int .i64 k)).run Tryz.prog W = .ok (.slice (some ⟨W.heap.size,0,none⟩) 0 k) (W.alloc (.cells (mkc k) 40)):=by
 obtain ⟨hund,⟨i,z,hi,hz,hs,hzs,hby⟩,hpos⟩:=elW;have hz':z = .int .u64 0:=by
  have:=info40;rw [hi] at this;simp only [Option.map_some,Option.some.injEq,Prod.mk.injEq] at this;rw [hz] at this;exact Option.some.inj this.1
 subst hz';have:=run_make (P:=Tryz.prog) W 22 40 i _ hund hi hz .i64 .i64 0 (k:Int) (by omega) (by omega) (by
  have:i.bytes * k ≤ 10000 * 100000:=Nat.mul_le_mul hby hk
  have h2:((i.bytes * k:Nat):Int) ≤ ((10000 * 100000:Nat):Int):=Int.ofNat_le.2 this
  rw [Int.natCast_mul] at h2
  omega) (by omega)
 rw [hs,Int.toNat_natCast,Nat.mul_one] at this;exact this
abbrev flatT (k n:Int):Value:=.agg #[.int .i64 k,.int .i64 n,.int .i64 0,.string ⟨#[]⟩,.string ⟨#[]⟩,.int .i64 0,.slice none 0 0,.string ⟨#[]⟩,.int .i64 0]
abbrev flatC (k n:Int):Array Value:=#[.int .i64 k,.int .i64 n,.int .i64 0,.string ⟨#[]⟩,.string ⟨#[]⟩,.int .i64 0,.slice none 0 0,.string ⟨#[]⟩,.int .i64 0]
theorem putInt (w:World) (p:Option Addr) (n:Int) (h0:-9223372036854775808 ≤ n) (h1:n ≤ 9223372036854775807) (hs:smallOk n = true) :
 Calls Tryz.prog 69 #[.pointer p,flatT 1 n] w fun e w'=>e = .returned (.int .u64 (smallW n))∧Below w.heap.size w w':=by
 have HI:=Lib.hid (fun W=>integer97 W p n h0 h1 hs);have hmk:∀ W:World,(Instr.makeSlice 22 (.int .i64 0) (.int .i64 0)).run Tryz.prog W = .ok (.slice (some ⟨W.heap.size,0,none⟩) 0 0) (W.alloc (.cells (mkc 0) 40)):=fun W=>mk22 W 0 (by omega);have HB:=Lib.hid (fun o o'=>belowA (belowA (Below.refl _ w) o) o');clear h0 h1 hs;go_enter Tryz.func69,Tryz.ntmps69;go_wp2_with fail;refine wp_loop_rounds 1 ?_;rw [rounds_succ];go_wp2_with fail;refine (HI.out _).mono ?_;rintro e w' ⟨rfl,rfl⟩;go_wp2_with fail;go_ret;exact ⟨rfl,HB.out _ _⟩
theorem putNil (w:World) (p:Option Addr) (n:Int) :
 Calls Tryz.prog 69 #[.pointer p,flatT 8 n] w fun e w'=>e = .returned (.int .u64 11)∧Below w.heap.size w w':=by
 have HI:=Lib.hid (fun W=>words.Nil W);have hmk:∀ W:World,(Instr.makeSlice 22 (.int .i64 0) (.int .i64 0)).run Tryz.prog W = .ok (.slice (some ⟨W.heap.size,0,none⟩) 0 0) (W.alloc (.cells (mkc 0) 40)):=fun W=>mk22 W 0 (by omega);have HB:=Lib.hid (fun o o'=>belowA (belowA (Below.refl _ w) o) o');go_enter Tryz.func69,Tryz.ntmps69;go_wp2_with fail;refine wp_loop_rounds 1 ?_;rw [rounds_succ];go_wp2_with fail;refine (HI.out _).mono ?_;rintro e w' ⟨rfl,rfl⟩;go_wp2_with fail;go_ret;exact ⟨rfl,HB.out _ _⟩
theorem needInt (w:World) (n:Int) (h0:-9223372036854775808 ≤ n) (h1:n ≤ 9223372036854775807) (hs:smallOk n = true) :
 Calls Tryz.prog 68 #[flatT 1 n] w fun e w'=>e = .returned (.int .i64 0)∧Below w.heap.size w w':=by
 have HI:=Lib.hid (fun W=>words.Small n h0 h1 W);have HB:=Lib.hid (fun o=>belowA (Below.refl _ w) o);clear h0 h1;go_enter Tryz.func68,Tryz.ntmps68;go_wp2_with fail;refine (HI.out _).mono ?_;rintro e w' ⟨rfl,rfl⟩;go_wp2_with fail;refine wp_loop_rounds 1 ?_;rw [rounds_succ];go_wp2_with fail;go_ret;exact ⟨rfl,HB.out _⟩
theorem needNil (w:World) (n:Int) :
 Calls Tryz.prog 68 #[flatT 8 n] w fun e w'=>e = .returned (.int .i64 0)∧Below w.heap.size w w':=by
 have HB:=Lib.hid (fun o=>belowA (Below.refl _ w) o);go_enter Tryz.func68,Tryz.ntmps68;go_wp2_with fail;refine wp_loop_rounds 1 ?_;rw [rounds_succ];go_wp2_with fail;go_ret;exact ⟨rfl,HB.out _⟩
abbrev flatL (k n:Int):List Value:=[.int .i64 k,.int .i64 n,.int .i64 0,.string ⟨#[]⟩,.string ⟨#[]⟩,.int .i64 0,.slice none 0 0,.string ⟨#[]⟩,.int .i64 0]
def aw3:Array Value:=(flatL 1 1 ++ flatL 1 1 ++ flatL 8 0).toArray
theorem aw3_range {w:World} {g:Nat} (h:w.heap[g]? = some (.cells aw3 38)):w.rangeAt g 0 (flatL 1 1)∧w.rangeAt g 9 (flatL 1 1)∧w.rangeAt g 18 (flatL 8 0):=by
 have e:∀ j,w.cell? ⟨g,j,none⟩ = (flatL 1 1 ++ flatL 1 1 ++ flatL 8 0)[j]?:=fun j=>by rw [cell_of_blk h];simp [aw3]
 refine ⟨fun j v hj=>?_,fun j v hj=>?_,fun j v hj=>?_⟩
 ·have hl:=(List.getElem?_eq_some_iff.1 hj).1;rw [Nat.zero_add,e,List.append_assoc,List.getElem?_append_left hl,hj]
 ·have hl:=(List.getElem?_eq_some_iff.1 hj).1;rw [e,List.append_assoc,List.getElem?_append_right (by simp),List.getElem?_append_left (by simpa using hl)];simpa using hj
 ·have hl:=(List.getElem?_eq_some_iff.1 hj).1;rw [e,List.getElem?_append_right (by simp)];simpa using hj
abbrev listT (g:Nat):Value:=.agg #[.int .i64 9,.int .i64 0,.int .i64 0,.string ⟨#[]⟩,.string ⟨#[]⟩,.int .i64 0,.slice (some ⟨g,0,none⟩) 3 3,.string ⟨#[]⟩,.int .i64 0]
theorem needL (w:World) (g:Nat) (hg:w.heap[g]? = some (.cells aw3 38)) :
 Calls Tryz.prog 68 #[listT g] w fun e w'=>e = .returned (.int .i64 4)∧Below w.heap.size w w':=by
 have HR:=Lib.hid (fun W (hb:Below w.heap.size w W)=>aw3_range (w:=W) ((hb.block g (Array.getElem?_eq_some_iff.1 hg).1).trans hg));have HI:=Lib.hid (fun W=>needInt W 1 (by omega) (by omega) (by decide));have HN:=Lib.hid (fun W=>needNil W 0);have HB:=Lib.hid (fun o=>belowA (Below.refl _ w) o);clear hg;go_enter Tryz.func68,Tryz.ntmps68;go_wp2_with fail;refine wp_loop_rounds 4 ?_;rw [rounds_succ];go_wp2_with (refine wpList_load_mid rfl 38 (.tmp 53) rfl g 0 rfl (flatL 1 1) _ (HR.out _ (HB.out _)).1 Tryz.underlying38 rfl (by kernel_rfl) ?_)
 refine (HI.out _).mono ?_;rintro e W1 ⟨rfl,hb1⟩;have HB1:=Lib.hid (show Below w.heap.size w W1 from (belowA (belowA (Below.refl _ w) _) _).trans (hb1.mono (belowA (belowA (Below.refl _ w) _) _).size));clear hb1;go_wp2_with fail;rw [rounds_succ];go_wp2_with (refine wpList_load_mid rfl 38 (.tmp 53) rfl g 9 rfl (flatL 1 1) _ (HR.out _ HB1.out).2.1 Tryz.underlying38 rfl (by kernel_rfl) ?_)
 refine (HI.out _).mono ?_;rintro e W2 ⟨rfl,hb2⟩;have HB2:=Lib.hid (show Below w.heap.size w W2 from (belowA HB1.out _).trans (hb2.mono (belowA HB1.out _).size));clear hb2;go_wp2_with fail;rw [rounds_succ];go_wp2_with (refine wpList_load_mid rfl 38 (.tmp 53) rfl g 18 rfl (flatL 8 0) _ (HR.out _ HB2.out).2.2 Tryz.underlying38 rfl (by kernel_rfl) ?_)
 refine (HN.out _).mono ?_;rintro e W3 ⟨rfl,hb3⟩;have HB3:=Lib.hid (show Below w.heap.size w W3 from (belowA HB2.out _).trans (hb3.mono (belowA HB2.out _).size));clear hb3;go_wp2_with fail;rw [rounds_succ];go_wp2_with fail;go_ret;exact ⟨rfl,HB3.out⟩
end Go.Proofs.YtpnlnbolhkcnjaaGreat.hp
