/- HrQ,HrR. No condition beyond theirs. -/
import Derived.Test.YtpnlnbolhkcnjaaGreatP36
set_option linter.unusedSimpArgs false
set_option linter.unusedVariables false
set_option maxHeartbeats 4000000
set_option maxRecDepth 100000
namespace Go.Proofs.YtpnlnbolhkcnjaaGreat.hp
open Go.RowKit mem words rec tm
structure GetEl (w:World) (z:Nat) (ws:List Int) (fs:Nat→TF) (Q:Nat→World→(Nat→Prop)→Value→Prop):Prop where
 keep:∀ j W W' (F F':Nat→Prop) u,Q j W F u→(∀ g,F g→W'.heap[g]? = W.heap[g]?)→(∀ g,F g→F' g)→Q j W' F' u
 one:∀ j W F u,Q j W F u→∃ p m c,u = .slice p m c
 get:∀ j x,ws[j]? = some x→∀ W,Below w.heap.size w W→Calls Tryz.prog 86 #[.pointer (some ⟨z,0,none⟩),.int .u64 x] W fun e w'=>∃ u,e = .returned (aggV (fs j) u)∧Q j w' (fun g=>W.heap.size ≤ g∧g < w'.heap.size) u∧Below W.heap.size W w'
structure RowsI (B0:Nat) (fs:Nat→TF) (Q:Nat→World→(Nat→Prop)→Value→Prop) (W:World) (v:Value) (j:Nat) (rows:List (TF × Value)):Prop where
 own:RecOwn encR 38 9 W B0 v rows
 len:rows.length = j
 el:∀ i q,rows[i]? = some q→q.1 = fs i∧Q i W (fun g=>B0 ≤ g∧g < W.heap.size∧v.ownBlock ≠ some g) q.2
theorem RowsI.start (B0:Nat) (fs:Nat→TF) (Q:Nat→World→(Nat→Prop)→Value→Prop) (W:World):RowsI B0 fs Q W (.slice none 0 0) 0 [] :=
 ⟨RecOwn.nil _ _ _,rfl,fun i q h=>by simp at h⟩
abbrev rowO (f:TF) (u:Value):Obj:=.cells (C9f f u) 38
section
variable {w:World} {z B0:Nat} {ws:List Int} {fs:Nat→TF} {Q:Nat→World→(Nat→Prop)→Value→Prop} {W W1:World} {v:Value} {j:Nat} {rows:List (TF × Value)} {u:Value}
theorem GetEl.encOK (hE:GetEl w z ws fs Q) {F:Nat→Prop} (hu:Q j W1 F u):EncOK encR 9 [(fs j,u)]:=by
 obtain ⟨p,m,c,eu⟩:=hE.one j W1 _ u hu;exact encR_ok _ (fun q hq=>by rw [List.mem_singleton.1 hq,eu];rfl)
theorem RowsI.encOK (hE:GetEl w z ws fs Q) (h:RowsI B0 fs Q W v j rows):EncOK encR 9 rows:=encR_ok _ (fun q hq=>by
 obtain ⟨i,hi⟩:=List.getElem?_of_mem hq
 obtain ⟨p,m,c,e⟩:=hE.one i W _ _ (h.el i q hi).2
 rw [e]
 rfl)
theorem RowsI.next (hE:GetEl w z ws fs Q) (h:RowsI B0 fs Q W v j rows) (hb:Below W.heap.size W W1) (hB:B0 ≤ W.heap.size) (hu:Q j W1 (fun g=>W.heap.size ≤ g∧g < W1.heap.size) u) {v':Value} {w':World}
 (hA:AppR encR 38 9 (W1.alloc (rowO (fs j) u)) B0 v rows [(fs j,u)] v' w'):RowsI B0 fs Q w' v' (j + 1) (rows ++ [(fs j,u)])∧Below B0 W w':=by
 have hba:Below W1.heap.size W1 (W1.alloc (rowO (fs j) u)):=belowA (Below.refl _ W1) _;have hb2:=hb.trans (hba.mono hb.size);have hs1:=hb.size;have hs2:(W1.alloc (rowO (fs j) u)).heap.size = W1.heap.size + 1:=World.size_alloc _ _;have hs3:=hA.grown.size;have hbw:Below B0 W w':=hA.belowB (hb2.mono hB) (by omega) (fun k hk=>(h.own.lt hk).1);have hnew:∀ g,g < W1.heap.size→v.ownBlock ≠ some g→w'.heap[g]? = W1.heap[g]?∧v'.ownBlock ≠ some g:=fun g hg hn=>by
  refine ⟨(hA.other (by omega) hn).trans (heap_alloc_old W1 _ hg),fun e=>?_⟩
  rcases hA.at_ with q | q
  ·exact hn (q ▸ e)
  ·rw [q] at e;have:=Option.some.inj e;omega
 refine ⟨⟨hA.own,by simp [h.len],fun i q hq=>?_⟩,hbw⟩
 by_cases hi:i < rows.length
 ·rw [List.getElem?_append_left hi] at hq;obtain ⟨q1,q2⟩:=h.el i q hq
  refine ⟨q1,hE.keep i W w' _ _ _ q2 (fun g hg=>?_) (fun g hg=>?_)⟩
  ·exact (hnew g (by omega) hg.2.2).1.trans (hb.block g hg.2.1)
  ·exact ⟨hg.1,by omega,(hnew g (by omega) hg.2.2).2⟩
 ·have hij:i = j:=by
   have:=(List.getElem?_eq_some_iff.1 hq).1;rw [List.length_append,List.length_singleton] at this;have:=h.len;omega
  subst hij;have e:(rows ++ [(fs i,u)])[i]? = some (fs i,u):=by
   rw [List.getElem?_append_right (by omega),h.len];simp
  rw [e] at hq;obtain rfl:=Option.some.inj hq;have hne:∀ g,W.heap.size ≤ g→v.ownBlock ≠ some g:=fun g hg e=>by
   have:=(h.own.lt e).2;omega
  exact ⟨rfl,hE.keep i W1 w' _ _ _ hu (fun g hg=>(hnew g hg.2 (hne g hg.1)).1) (fun g hg=>⟨by omega,by omega,(hnew g hg.2 (hne g hg.1)).2⟩)⟩
theorem RowsI.set (hE:GetEl w z ws fs Q) (h:RowsI B0 fs Q W v j rows) {g:Nat} (hg:g < B0) (c:Array Value):RowsI B0 fs Q (W.setRow g c) v j rows:=by
 refine ⟨h.own.same fun k hk=>setRow_other _ _ _ _ (by have:=(h.own.lt hk).1;omega),h.len,fun i q hq=>?_⟩;obtain ⟨q1,q2⟩:=h.el i q hq;exact ⟨q1,hE.keep i W _ _ _ _ q2 (fun k hk=>setRow_other _ _ _ _ (by have:=hk.1;omega)) (fun k hk=>⟨hk.1,by simpa using hk.2.1,hk.2.2⟩)⟩
theorem RowsI.below (hE:GetEl w z ws fs Q) (h:RowsI B0 fs Q W v j rows) (hb:Below W.heap.size W W1):RowsI B0 fs Q W1 v j rows:=by
 refine ⟨h.own.below hb,h.len,fun i q hq=>?_⟩;obtain ⟨q1,q2⟩:=h.el i q hq;exact ⟨q1,hE.keep i W _ _ _ _ q2 (fun k hk=>hb.block k hk.2.1) (fun k hk=>⟨hk.1,Nat.lt_of_lt_of_le hk.2.1 hb.size,hk.2.2⟩)⟩
end
section
variable {w:World} {B z a b:Nat} {c:Int} {σ:St} {S:Nat→Prop}
def GetR {z:Nat} {ws:List Int} {fs:Nat→TF} {Q:Nat→World→(Nat→Prop)→Value→Prop} (f:TF) (m:Nat) (w:World) (e:Ending) (w':World):Prop:=∃ v rows B0,e = .returned (aggV f v)∧w.heap.size ≤ B0∧RowsI B0 fs Q w' v m rows∧Below w.heap.size w w'
theorem get_x1 (h:HQ w B z a b c σ S) (hY:σ.Y.length ≤ 100000) (hN:σ.N.length ≤ 500000) {v:Int} (v0:0 ≤ v) (v1:v ≤ 18446744073709551615) (hs:soOk v = false) (ha:aoOk v = false) {x:List Int} (hp:cl.Pt (Kb σ) v x) (hk:cl.knd x = 1) {ws:List Int} {m:Nat} (hw:cl.wds x = ws) (hlw:ws.length = m) (hm:0 < m) (hm2:m ≤ 200000) {fs:Nat→TF} {Q:Nat→World→(Nat→Prop)→Value→Prop} (hE:GetEl w z ws fs Q) :
 Calls Tryz.prog 86 #[.pointer (some ⟨z,0,none⟩),.int .u64 v] w (GetR (z:=z) (ws:=ws) (fs:=fs) (Q:=Q) ⟨7,0,0,e0,e0,0,e0,0⟩ m w):=by
 have HS:=Lib.hid (fun W=>words.SmallOf v v0 v1 W);rw [hs] at HS;have HA':=Lib.hid (fun W=>words.AtomOf v v0 v1 W);rw [ha] at HA';have hb0:Below w.heap.size w (w.alloc (.cells zC 38)):=belowA (Below.refl _ w) _;have hsz:(w.alloc (.cells zC 38)).heap.size = w.heap.size + 1:=World.size_alloc _ _;have HO:=Lib.hid (objQ2 h hY hb0 v0 v1 hp);rw [hk,hw] at HO;have HZ:=Lib.hid (heap_alloc_new w (.cells zC 38));have HB:=Lib.hid hb0;have HSZ:=Lib.hid hsz;have HQ0:=Lib.hid h;have HE:=Lib.hid hE;have HLw:=Lib.hid hlw;have HM:=Lib.hid (⟨hm,hm2⟩:0 < m∧m ≤ 200000);clear h hs ha hp hk hw hb0 hsz v0 v1 hE
 unfold GetR;go_enter Tryz.func86,Tryz.ntmps86;go_wp2_with fail;refine (HS.out _).mono ?_;rintro e w1 ⟨rfl,rfl⟩;go_wp2_with fail;refine (HA'.out _).mono ?_;rintro e w1 ⟨rfl,rfl⟩;go_wp2_with fail;refine HO.out.mono ?_;rintro e w1 ⟨u,rfl,hr,hb⟩;have HR:=Lib.hid hr;obtain ⟨p,k,e,hk1,hk2⟩:=hr.shape;rw [hlw] at e hk1;rw [e] at hr HR;obtain ⟨g,o,rfl,hml,hg,hc⟩:=hr.nth (by rw [hlw];exact hm);subst e;have hcell:∀ W,Below w.heap.size w1 W→∀ j x,ws[j]? = some x→W.cell? ⟨g,o + j,none⟩ = some (.int .u64 x):=fun W hW j x hj=>by
  have:=hc j x hj 0 _ rfl;rw [Nat.mul_one,Nat.add_zero] at this;exact (Below.cell hW (p:=⟨g,o + j,none⟩) hg).trans this
 have HCell:=Lib.hid hcell;clear hcell;have HZ1:=Lib.hid ((hb.block w.heap.size (by have:=HSZ.out;omega)).trans HZ.out);have HB1:=Lib.hid (HB.out.trans (hb.mono HB.out.size));have HG:Hid (g < w.heap.size∧w.heap.size < w1.heap.size):=Lib.hid (by have:=HSZ.out;have:=hb.size;omega);have HFx:Hid (∀ W,Calls Tryz.prog 133 #[.int .i64 1,.slice (some ⟨g,o,none⟩) m k] W fun e w'=>e = .returned (.int .i64 0)∧W = w'):=Lib.hid (fun W=>by
  have h:=cl.fixed114 W (some ⟨g,o,none⟩) m k 1
  simpa [cl.fxd] using h)
 have hk1':((m:Nat):Int) ≤ (k:Int):=by omega
 have hk3:(0:Int) < (k:Int):=by omega
 have hm0:(0:Int) < (m:Int):=by omega
 clear hml hr hc hb hk1 hk2 HO HZ hlw hm hm2;go_wp2_with fail;refine (HFx.out _).mono ?_;rintro e w2 ⟨rfl,rfl⟩;go_wp2_with fail;go_loopw [12,53] (fun s12 s53 wr=>∃ (j:Nat) (rows:List (TF × Value)),s53 = .int .i64 j∧j ≤ m∧Hid (RowsI w1.heap.size fs Q wr s12 j rows)∧Hid (Below w1.heap.size w1 wr)) (fun _ s53 _=>m - (intOf s53).toNat)
 case atStart=>exact ⟨0,[],rfl,by omega,Lib.hid (RowsI.start _ _ _ _),Lib.hid (Below.refl _ _)⟩
 case round =>
  obtain ⟨j,rows,rfl,hj,HRw,HBr⟩:=hrel
  by_cases hlt:j < m
  ·obtain ⟨x,hx⟩:∃ x,ws[j]? = some x:=⟨_,List.getElem?_eq_getElem (by rw [HLw.out];exact hlt)⟩;have hj64:j < 200000:=by have:=HM.out;omega
   have hbw:Below w.heap.size w1 wr:=HBr.out.mono (Nat.le_of_lt HG.out.2);have k1:=HCell.out wr hbw j x hx;have HGt:=Lib.hid (HE.out.get j x hx wr (HB1.out.trans hbw));clear hbw hx;go_wp2_with fail;refine HGt.out.mono ?_;rintro e W2 ⟨u,rfl,hq,hb⟩;obtain ⟨up,um,uc,rfl⟩:=HE.out.one j W2 _ u hq;have hs1:=hb.size;have hs0:=HBr.out.size;have hba:Below W2.heap.size W2 (W2.alloc (rowO (fs j) (.slice up um uc))):=belowA (Below.refl _ W2) _;have RO:=Lib.hid (HRw.out.own.below (hb.trans (hba.mono hb.size)))
   have HBs:Hid (w1.heap.size ≤ (W2.alloc (rowO (fs j) (.slice up um uc))).heap.size):=Lib.hid (by rw [World.size_alloc];omega);have HEn:=Lib.hid (HE.out.encOK hq);have RA:Hid (RecAt encR 9 (W2.alloc (rowO (fs j) (.slice up um uc))) (W2.heap.size + 1) (.slice (some ⟨W2.heap.size,0,none⟩) 1 1) [(fs j,Value.slice up um uc)]):=Lib.hid (RecAt.fresh (l:=[(fs j,Value.slice up um uc)]) HEn.out (by decide) (heap_alloc_new W2 _) (Nat.le_refl 1) (by unfold maxLen;omega));have HLn:Hid (rows.length + [(fs j,Value.slice up um uc)].length ≤ 1000000000):=Lib.hid (by rw [HRw.out.len];have:=HM.out;simp;omega)
   have HNx:=Lib.hid (fun v' w' hA=>RowsI.next HE.out HRw.out hb hs0 hq (v':=v') (w':=w') hA);clear hq hb hs1 hs0 hba k1;dsimp only [aggV];go_wp2_with (refine wpList_append_rec (enc:=encR) elT rfl (.tmp 57) (.tmp 61) rfl rfl (base:=w1.heap.size) (l:=rows) RO.out HBs.out (B:=W2.heap.size + 1) (xs:=[(fs j,.slice up um uc)]) rfl RA.out HEn.out HLn.out ?_)
   intro v2 w3 hA;obtain ⟨h1,h2⟩:=HNx.out _ _ hA;have H1:=Lib.hid h1;have H2:=Lib.hid (HBr.out.trans h2);clear hA h1 h2;go_wp2_with fail;go_roundw
   case rel=>exact ⟨j + 1,_,by go_num,by omega,H1,H2⟩
   case measure=>simp [intOf];omega
  ·obtain rfl:j = m:=by omega
   obtain ⟨pv,cv,ev,_,_⟩:=HRw.out.own.shape;generalize rows.length = nv at ev;subst ev;have HZ2:=Lib.hid ((HBr.out.block w.heap.size HG.out.2).trans HZ1.out);have HB2:=Lib.hid (HB1.out.trans (HBr.out.mono (Nat.le_of_lt HG.out.2)));go_wp2_with (refine wpList_store_row rfl 38 (.tmp 4) (.tmp 102) rfl w.heap.size (C9f ⟨7,0,0,e0,e0,0,e0,0⟩ (.slice pv nv cv)) rfl rfl 38 zC HZ2.out i38 rfl (nine1 _ rfl) ?_)
   go_wp2_with fail;refine bodyPost_ret (v:=aggV ⟨7,0,0,e0,e0,0,e0,0⟩ (.slice pv nv cv)) (ret_row rfl _ rfl (cs:=encR (⟨7,0,0,e0,e0,0,e0,0⟩,.slice pv nv cv)) rfl (range_blk (setRow_heap _ _ _ _ _ _ HZ2.out))) rfl ⟨_,rows,w1.heap.size,rfl,Nat.le_of_lt HG.out.2,HRw.out.set HE.out HG.out.2 _,below_setRow HB2.out (Nat.le_refl _) _⟩
end
end Go.Proofs.YtpnlnbolhkcnjaaGreat.hp
