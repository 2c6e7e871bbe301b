/- HrS,HrT. No condition beyond theirs. -/
import Derived.Test.YtpnlnbolhkcnjaaGreatP37
set_option linter.unusedSimpArgs false
set_option linter.unusedVariables false
set_option maxHeartbeats 4000000
set_option maxRecDepth 100000
namespace Go.Proofs.YtpnlnbolhkcnjaaGreat.hp
open Go.RowKit mem words rec tm
section
variable {w:World} {B z a b:Nat} {c:Int} {σ:St} {S:Nat→Prop}
theorem get_x2 (h:HQ w B z a b c σ S) (hY:σ.Y.length ≤ 100000) (hN:σ.N.length ≤ 500000) {v:Int} (v0:0 ≤ v) (v1:v ≤ 18446744073709551615) (hs:soOk v = false) (ha:aoOk v = false) {x:List Int} (hp:cl.Pt (Kb σ) v x) (hk:cl.knd x = 2) {k0 k1 k2 k3:Int} {ws:List Int} {m:Nat} (hw:cl.wds x = k0 :: k1 :: k2 :: k3 :: ws) (hlw:ws.length = m) (hm:0 < m) (hm2:m ≤ 200000) (W0:0 ≤ k0∧k0 ≤ 18446744073709551615) (W1:0 ≤ k1∧k1 ≤ 18446744073709551615) (W2:0 ≤ k2∧k2 ≤ 18446744073709551615) (W3:0 ≤ k3∧k3 ≤ 18446744073709551615) {fs:Nat→TF} {Q:Nat→World→(Nat→Prop)→Value→Prop} (hE:GetEl w z ws fs Q) :
 Calls Tryz.prog 86 #[.pointer (some ⟨z,0,none⟩),.int .u64 v] w (GetR (z:=z) (ws:=ws) (fs:=fs) (Q:=Q) ⟨4,soN k2,soN k1,nameO σ k0,e0,soN k3,e0,0⟩ m w):=by
 have HS:=Lib.hid (fun W=>words.SmallOf v v0 v1 W);rw [hs] at HS;have HA':=Lib.hid (fun W=>words.AtomOf v v0 v1 W);rw [ha] at HA';have hb0:Below w.heap.size w (w.alloc (.cells zC 38)):=belowA (Below.refl _ w) _;have hsz:(w.alloc (.cells zC 38)).heap.size = w.heap.size + 1:=World.size_alloc _ _;have HO:=Lib.hid (objQ2 h hY hb0 v0 v1 hp);rw [hk,hw] at HO;have HZ:=Lib.hid (heap_alloc_new w (.cells zC 38));have HB:=Lib.hid hb0;have HSZ:=Lib.hid hsz;have HQ0:=Lib.hid h;have HE:=Lib.hid hE;have HLw:=Lib.hid hlw;have HM:=Lib.hid (⟨hm,hm2⟩:0 < m∧m ≤ 200000)
 have HN0:=Lib.hid (fun W (hb:Below w.heap.size w W)=>name154 (h.below hb) hN k0 W0.1 W0.2);have m1:NumIs k1 (soN k1):=⟨W1.1,W1.2,rfl⟩;generalize soN k1 = n1 at *;have m2:NumIs k2 (soN k2):=⟨W2.1,W2.2,rfl⟩;generalize soN k2 = n2 at *;have m3:NumIs k3 (soN k3):=⟨W3.1,W3.2,rfl⟩;generalize soN k3 = n3 at *;generalize nameO σ k0 = nm0 at *;clear h hs ha hp hk hw hb0 hsz v0 v1 hE W0 W1 W2 W3;unfold GetR;go_enter Tryz.func86,Tryz.ntmps86;go_wp2_with fail;refine (HS.out _).mono ?_;rintro e w1 ⟨rfl,rfl⟩;go_wp2_with fail;refine (HA'.out _).mono ?_;rintro e w1 ⟨rfl,rfl⟩;go_wp2_with fail
 refine HO.out.mono ?_;rintro e w1 ⟨u,rfl,hr,hb⟩;have HR:=Lib.hid hr;obtain ⟨p,k,e,hk1,hk2⟩:=hr.shape;rw [show (k0 :: k1 :: k2 :: k3 :: ws).length = m + 4 by simp [hlw]] at e hk1;rw [e] at hr HR;obtain ⟨g,o,rfl,hml,hg,hc⟩:=hr.nth (by simp);subst e;have hcell:∀ W,Below w.heap.size w1 W→(∀ j x,ws[j]? = some x→W.cell? ⟨g,o + 4 + j,none⟩ = some (.int .u64 x))∧W.cell? ⟨g,o,none⟩ = some (.int .u64 k0)∧W.cell? ⟨g,o + 1,none⟩ = some (.int .u64 k1)∧W.cell? ⟨g,o + 2,none⟩ = some (.int .u64 k2)∧W.cell? ⟨g,o + 3,none⟩ = some (.int .u64 k3):=fun W hW=>by
  have hh:∀ j x,(k0 :: k1 :: k2 :: k3 :: ws)[j]? = some x→W.cell? ⟨g,o + j,none⟩ = some (.int .u64 x):=fun j x hj=>by
   have:=hc j x hj 0 _ rfl;rw [Nat.mul_one,Nat.add_zero] at this;exact (Below.cell hW (p:=⟨g,o + j,none⟩) hg).trans this
  refine ⟨fun j x hj=>?_,hh 0 _ rfl,hh 1 _ rfl,hh 2 _ rfl,hh 3 _ rfl⟩;have e:o + 4 + j = o + (j + 4):=by omega
  rw [e];exact hh (j + 4) x (by simpa using hj)
 have HCell:=Lib.hid hcell;clear hcell;have HZ1:=Lib.hid ((hb.block w.heap.size (by have:=HSZ.out;omega)).trans HZ.out);have HB1:=Lib.hid (HB.out.trans (hb.mono HB.out.size));have HG:Hid (g < w.heap.size∧w.heap.size < w1.heap.size):=Lib.hid (by have:=HSZ.out;have:=hb.size;omega);have HFx:Hid (∀ W,Calls Tryz.prog 133 #[.int .i64 2,.slice (some ⟨g,o,none⟩) (m + 4) k] W fun e w'=>e = .returned (.int .i64 4)∧W = w'):=Lib.hid (fun W=>by
  have h:=cl.fixed114 W (some ⟨g,o,none⟩) (m + 4) k 2
  have e4:min 4 (m + 4) = 4:=by omega
  simpa [cl.fxd,e4] using h)
 have hk1':((m:Nat):Int) + 4 ≤ (k:Int):=by omega
 have hk3:(4:Int) < (k:Int):=by omega
 have hk5:(4:Int) ≤ (m:Int) + 4:=by omega
 have hm0:(0:Int) < (m:Int):=by omega
 clear hml hr hc hb hk1 hk2 HO HZ hlw hm hm2;go_wp2_with fail;refine (HFx.out _).mono ?_;rintro e w2 ⟨rfl,rfl⟩;go_wp2_with fail;go_loopw [12,53] (fun s12 s53 wr=>∃ (j:Nat) (rows:List (TF × Value)),s53 = .int .i64 j∧j ≤ m∧Hid (RowsI w1.heap.size fs Q wr s12 j rows)∧Hid (Below w1.heap.size w1 wr)) (fun _ s53 _=>m - (intOf s53).toNat)
 case atStart=>exact ⟨0,[],rfl,by omega,Lib.hid (RowsI.start _ _ _ _),Lib.hid (Below.refl _ _)⟩
 case round =>
  obtain ⟨j,rows,rfl,hj,HRw,HBr⟩:=hrel
  by_cases hlt:j < m
  ·obtain ⟨x,hx⟩:∃ x,ws[j]? = some x:=⟨_,List.getElem?_eq_getElem (by rw [HLw.out];exact hlt)⟩;have hj64:j < 200000:=by have:=HM.out;omega
   have hbw:Below w.heap.size w1 wr:=HBr.out.mono (Nat.le_of_lt HG.out.2);have k1:=(HCell.out wr hbw).1 j x hx;have HGt:=Lib.hid (HE.out.get j x hx wr (HB1.out.trans hbw));clear hbw hx;go_wp2_with fail;refine HGt.out.mono ?_;rintro e W2 ⟨u,rfl,hq,hb⟩;obtain ⟨up,um,uc,rfl⟩:=HE.out.one j W2 _ u hq;have hs1:=hb.size;have hs0:=HBr.out.size;have hba:Below W2.heap.size W2 (W2.alloc (rowO (fs j) (.slice up um uc))):=belowA (Below.refl _ W2) _;have RO:=Lib.hid (HRw.out.own.below (hb.trans (hba.mono hb.size)))
   have HBs:Hid (w1.heap.size ≤ (W2.alloc (rowO (fs j) (.slice up um uc))).heap.size):=Lib.hid (by rw [World.size_alloc];omega);have HEn:=Lib.hid (HE.out.encOK hq);have RA:Hid (RecAt encR 9 (W2.alloc (rowO (fs j) (.slice up um uc))) (W2.heap.size + 1) (.slice (some ⟨W2.heap.size,0,none⟩) 1 1) [(fs j,Value.slice up um uc)]):=Lib.hid (RecAt.fresh (l:=[(fs j,Value.slice up um uc)]) HEn.out (by decide) (heap_alloc_new W2 _) (Nat.le_refl 1) (by unfold maxLen;omega));have HLn:Hid (rows.length + [(fs j,Value.slice up um uc)].length ≤ 1000000000):=Lib.hid (by rw [HRw.out.len];have:=HM.out;simp;omega)
   have HNx:=Lib.hid (fun v' w' hA=>RowsI.next HE.out HRw.out hb hs0 hq (v':=v') (w':=w') hA);clear hq hb hs1 hs0 hba k1;dsimp only [aggV];go_wp2_with (refine wpList_append_rec (enc:=encR) elT rfl (.tmp 57) (.tmp 61) rfl rfl (base:=w1.heap.size) (l:=rows) RO.out HBs.out (B:=W2.heap.size + 1) (xs:=[(fs j,.slice up um uc)]) rfl RA.out HEn.out HLn.out ?_)
   intro v2 w3 hA;obtain ⟨h1,h2⟩:=HNx.out _ _ hA;have H1:=Lib.hid h1;have H2:=Lib.hid (HBr.out.trans h2);clear hA h1 h2;go_wp2_with fail;go_roundw
   case rel=>exact ⟨j + 1,_,by go_num,by omega,H1,H2⟩
   case measure=>simp [intOf];omega
  ·obtain rfl:j = m:=by omega
   obtain ⟨pv,cv,ev,_,_⟩:=HRw.out.own.shape;generalize rows.length = nv at ev;subst ev;have HZ2:=Lib.hid ((HBr.out.block w.heap.size HG.out.2).trans HZ1.out);have HB2:=Lib.hid (HB1.out.trans (HBr.out.mono (Nat.le_of_lt HG.out.2)));obtain ⟨_,r0,r1,r2,r3⟩:=HCell.out wr (HBr.out.mono (Nat.le_of_lt HG.out.2));have HRd:=Lib.hid (HRw.out.below HE.out (belowD (Below.refl _ wr)));have HZd:wr.drew.heap[w.heap.size]? = some (.cells zC 38):=HZ2.out;have HBd:=Lib.hid (belowD HB2.out);have r0':wr.drew.cell? ⟨g,o,none⟩ = some (.int .u64 k0):=r0;have r1':wr.drew.cell? ⟨g,o + 1,none⟩ = some (.int .u64 k1):=r1
   have r2':wr.drew.cell? ⟨g,o + 2,none⟩ = some (.int .u64 k2):=r2;have r3':wr.drew.cell? ⟨g,o + 3,none⟩ = some (.int .u64 k3):=r3;have HSet:Hid (∀ q c,(wr.drew.setRow w.heap.size c).cell? ⟨g,q,none⟩ = wr.drew.cell? ⟨g,q,none⟩):=Lib.hid (fun q c=>World.cell?_of_block (w:=wr.drew) (a:=⟨g,q,none⟩) (setRow_other _ _ _ _ (show g ≠ w.heap.size by have:=HG.out;omega)));have hk40:(0:Int) < (j:Int) + 4:=by omega
   have hk41:(1:Int) < (j:Int) + 4:=by omega
   have hk42:(2:Int) < (j:Int) + 4:=by omega
   have hk43:(3:Int) < (j:Int) + 4:=by omega
   clear r0 r1 r2 r3;go_wp2_with fail;refine wp_region_held_drew (S:=fun W=>W.cell? ⟨g,o,none⟩ = some (.int .u64 k0)∧W.cell? ⟨g,o + 1,none⟩ = some (.int .u64 k1)∧W.cell? ⟨g,o + 2,none⟩ = some (.int .u64 k2)∧W.cell? ⟨g,o + 3,none⟩ = some (.int .u64 k3)) (by kernel_rfl) ⟨r0',r1',r2',r3'⟩ (fun hHeld=>?_);refine wpAnyH_take (i:=0) (oi:={ dst:=some 105,op:=Op.move (Operand.tmp 0),type:=34,pos := "heap.go:242",after:=#[],guard:=none }) (v:=?vvC0) rfl (by kernel_rfl) (by kernel_rfl) (by kernel_rfl) (fun _ _ _ h=>h) (Or.inl ⟨by rfl,?hyC0⟩) (by assumption) ?rsC0;case hyC0 =>
    intro w hSw;(try dsimp only at hSw)
    go_simp;(try with_reducible rfl)
   (try simp only [Act.put,List.setIfInBounds_toArray,List.set_cons_zero,List.set_cons_succ])
   refine wpAnyH_take (i:=1) (oi:={ dst:=some 106,op:=Op.move (Operand.tmp 10),type:=22,pos := "heap.go:242",after:=#[],guard:=none }) (v:=?vvC1) rfl (by kernel_rfl) (by kernel_rfl) (by kernel_rfl) (fun _ _ _ h=>h) (Or.inl ⟨by rfl,?hyC1⟩) (by assumption) ?rsC1;case hyC1 =>
    intro w hSw;(try dsimp only at hSw)
    go_simp;(try with_reducible rfl)
   (try simp only [Act.put,List.setIfInBounds_toArray,List.set_cons_zero,List.set_cons_succ])
   refine wpAnyH_take (i:=2) (oi:={ dst:=some 107,op:=Op.indexAddr 22 (Operand.tmp 106) (Operand.const (Value.int IntKind.i64 0)),type:=0,pos := "heap.go:242",after:=#[{ on:=1,ground:=Ground.data }],guard:=none }) (v:=?vvC2) rfl (by kernel_rfl) (by kernel_rfl) (by kernel_rfl) (fun _ _ _ h=>h) (Or.inl ⟨by rfl,?hyC2⟩) (by assumption) ?rsC2;case hyC2 =>
    intro w hSw;(try dsimp only at hSw)
    go_simp;(try with_reducible rfl)
   (try simp only [Act.put,List.setIfInBounds_toArray,List.set_cons_zero,List.set_cons_succ])
   refine wpAnyH_take (i:=3) (oi:={ dst:=some 108,op:=Op.load 40 (Operand.tmp 107),type:=40,pos := "heap.go:242",after:=#[{ on:=2,ground:=Ground.data }],guard:=none }) (v:=?vvC3) rfl (by kernel_rfl) (by kernel_rfl) (by kernel_rfl) (fun _ _ _ h=>h) (Or.inl ⟨by rfl,?hyC3⟩) (by assumption) ?rsC3;case hyC3 =>
    intro w hSw;(try dsimp only at hSw)
    go_simp;(try with_reducible rfl)
   (try simp only [Act.put,List.setIfInBounds_toArray,List.set_cons_zero,List.set_cons_succ])
   refine wpAnyH_take (i:=5) (oi:={ dst:=some 110,op:=Op.move (Operand.tmp 10),type:=22,pos := "heap.go:242",after:=#[],guard:=none }) (v:=?vvC5) rfl (by kernel_rfl) (by kernel_rfl) (by kernel_rfl) (fun _ _ _ h=>h) (Or.inl ⟨by rfl,?hyC5⟩) (by assumption) ?rsC5;case hyC5 =>
    intro w hSw;(try dsimp only at hSw)
    go_simp;(try with_reducible rfl)
   (try simp only [Act.put,List.setIfInBounds_toArray,List.set_cons_zero,List.set_cons_succ])
   refine wpAnyH_take (i:=6) (oi:={ dst:=some 111,op:=Op.indexAddr 22 (Operand.tmp 110) (Operand.const (Value.int IntKind.i64 1)),type:=0,pos := "heap.go:242",after:=#[{ on:=5,ground:=Ground.data }],guard:=none }) (v:=?vvC6) rfl (by kernel_rfl) (by kernel_rfl) (by kernel_rfl) (fun _ _ _ h=>h) (Or.inl ⟨by rfl,?hyC6⟩) (by assumption) ?rsC6;case hyC6 =>
    intro w hSw;(try dsimp only at hSw)
    go_simp;(try with_reducible rfl)
   (try simp only [Act.put,List.setIfInBounds_toArray,List.set_cons_zero,List.set_cons_succ])
   refine wpAnyH_take (i:=7) (oi:={ dst:=some 112,op:=Op.load 40 (Operand.tmp 111),type:=40,pos := "heap.go:242",after:=#[{ on:=6,ground:=Ground.data }],guard:=none }) (v:=?vvC7) rfl (by kernel_rfl) (by kernel_rfl) (by kernel_rfl) (fun _ _ _ h=>h) (Or.inl ⟨by rfl,?hyC7⟩) (by assumption) ?rsC7;case hyC7 =>
    intro w hSw;(try dsimp only at hSw)
    go_simp;(try with_reducible rfl)
   (try simp only [Act.put,List.setIfInBounds_toArray,List.set_cons_zero,List.set_cons_succ])
   refine wpAnyH_take (i:=9) (oi:={ dst:=some 114,op:=Op.move (Operand.tmp 10),type:=22,pos := "heap.go:242",after:=#[],guard:=none }) (v:=?vvC9) rfl (by kernel_rfl) (by kernel_rfl) (by kernel_rfl) (fun _ _ _ h=>h) (Or.inl ⟨by rfl,?hyC9⟩) (by assumption) ?rsC9;case hyC9 =>
    intro w hSw;(try dsimp only at hSw)
    go_simp;(try with_reducible rfl)
   (try simp only [Act.put,List.setIfInBounds_toArray,List.set_cons_zero,List.set_cons_succ])
   refine wpAnyH_take (i:=10) (oi:={ dst:=some 115,op:=Op.indexAddr 22 (Operand.tmp 114) (Operand.const (Value.int IntKind.i64 2)),type:=0,pos := "heap.go:242",after:=#[{ on:=9,ground:=Ground.data }],guard:=none }) (v:=?vvC10) rfl (by kernel_rfl) (by kernel_rfl) (by kernel_rfl) (fun _ _ _ h=>h) (Or.inl ⟨by rfl,?hyC10⟩) (by assumption) ?rsC10;case hyC10 =>
    intro w hSw;(try dsimp only at hSw)
    go_simp;(try with_reducible rfl)
   (try simp only [Act.put,List.setIfInBounds_toArray,List.set_cons_zero,List.set_cons_succ])
   refine wpAnyH_take (i:=11) (oi:={ dst:=some 116,op:=Op.load 40 (Operand.tmp 115),type:=40,pos := "heap.go:242",after:=#[{ on:=10,ground:=Ground.data }],guard:=none }) (v:=?vvC11) rfl (by kernel_rfl) (by kernel_rfl) (by kernel_rfl) (fun _ _ _ h=>h) (Or.inl ⟨by rfl,?hyC11⟩) (by assumption) ?rsC11;case hyC11 =>
    intro w hSw;(try dsimp only at hSw)
    go_simp;(try with_reducible rfl)
   (try simp only [Act.put,List.setIfInBounds_toArray,List.set_cons_zero,List.set_cons_succ])
   refine wpAnyH_take (i:=13) (oi:={ dst:=some 118,op:=Op.move (Operand.tmp 10),type:=22,pos := "heap.go:242",after:=#[],guard:=none }) (v:=?vvC13) rfl (by kernel_rfl) (by kernel_rfl) (by kernel_rfl) (fun _ _ _ h=>h) (Or.inl ⟨by rfl,?hyC13⟩) (by assumption) ?rsC13;case hyC13 =>
    intro w hSw;(try dsimp only at hSw)
    go_simp;(try with_reducible rfl)
   (try simp only [Act.put,List.setIfInBounds_toArray,List.set_cons_zero,List.set_cons_succ])
   refine wpAnyH_take (i:=14) (oi:={ dst:=some 119,op:=Op.indexAddr 22 (Operand.tmp 118) (Operand.const (Value.int IntKind.i64 3)),type:=0,pos := "heap.go:242",after:=#[{ on:=13,ground:=Ground.data }],guard:=none }) (v:=?vvC14) rfl (by kernel_rfl) (by kernel_rfl) (by kernel_rfl) (fun _ _ _ h=>h) (Or.inl ⟨by rfl,?hyC14⟩) (by assumption) ?rsC14;case hyC14 =>
    intro w hSw;(try dsimp only at hSw)
    go_simp;(try with_reducible rfl)
   (try simp only [Act.put,List.setIfInBounds_toArray,List.set_cons_zero,List.set_cons_succ])
   refine wpAnyH_take (i:=15) (oi:={ dst:=some 120,op:=Op.load 40 (Operand.tmp 119),type:=40,pos := "heap.go:242",after:=#[{ on:=14,ground:=Ground.data }],guard:=none }) (v:=?vvC15) rfl (by kernel_rfl) (by kernel_rfl) (by kernel_rfl) (fun _ _ _ h=>h) (Or.inl ⟨by rfl,?hyC15⟩) (by assumption) ?rsC15;case hyC15 =>
    intro w hSw;(try dsimp only at hSw)
    go_simp;(try with_reducible rfl)
   (try simp only [Act.put,List.setIfInBounds_toArray,List.set_cons_zero,List.set_cons_succ])
   refine wpAnyH_take (i:=17) (oi:={ dst:=some 122,op:=Op.move (Operand.tmp 12),type:=36,pos := "heap.go:242",after:=#[],guard:=none }) (v:=?vvC17) rfl (by kernel_rfl) (by kernel_rfl) (by kernel_rfl) (fun _ _ _ h=>h) (Or.inl ⟨by rfl,?hyC17⟩) (by assumption) ?rsC17;case hyC17 =>
    intro w hSw;(try dsimp only at hSw)
    go_simp;(try with_reducible rfl)
   (try simp only [Act.put,List.setIfInBounds_toArray,List.set_cons_zero,List.set_cons_succ])
   refine wpAnyH_ready (rs:=[4]) (by kernel_rfl) (by simp) ?_;refine (AllReadyH.cons (o:={ dst:=some 109,op:=Op.call { callee:=Callee.value (Operand.func 154),args:=#[Operand.tmp 105,Operand.tmp 108],argTypes:=#[34,40] },type:=9,pos := "heap.go:242",after:=#[{ on:=0,ground:=Ground.data },{ on:=3,ground:=Ground.data }],guard:=none }) rfl (fun K hK=>?_) AllReadyH.nil);go_simp;refine (HN0.out _ HBd.out).mono ?_;rintro e w2 ⟨rfl,rfl⟩;go_wp2_with fail
   refine hK.out _ _ ?_ (fun hHeld=>?_)
   ·first | exact ⟨r0',r1',r2',r3'⟩ | exact ⟨(HSet.out _ _).trans r0',(HSet.out _ _).trans r1',(HSet.out _ _).trans r2',(HSet.out _ _).trans r3'⟩
   clear hK K;(try simp only [Act.put,List.setIfInBounds_toArray,List.set_cons_zero,List.set_cons_succ])
   refine wpAnyH_ready (rs:=[8]) (by kernel_rfl) (by simp) ?_;refine (AllReadyH.cons (o:={ dst:=some 113,op:=Op.call { callee:=Callee.value (Operand.func 77),args:=#[Operand.tmp 112],argTypes:=#[40] },type:=2,pos := "heap.go:242",after:=#[{ on:=7,ground:=Ground.data },{ on:=4,ground:=Ground.chain }],guard:=none }) rfl (fun K hK=>?_) AllReadyH.nil);go_simp;refine (num77i _ _ (by assumption) _).mono ?_;rintro e w2 ⟨rfl,rfl⟩;go_wp2_with fail
   refine hK.out _ _ ?_ (fun hHeld=>?_)
   ·first | exact ⟨r0',r1',r2',r3'⟩ | exact ⟨(HSet.out _ _).trans r0',(HSet.out _ _).trans r1',(HSet.out _ _).trans r2',(HSet.out _ _).trans r3'⟩
   clear hK K;(try simp only [Act.put,List.setIfInBounds_toArray,List.set_cons_zero,List.set_cons_succ])
   refine wpAnyH_ready (rs:=[12]) (by kernel_rfl) (by simp) ?_;refine (AllReadyH.cons (o:={ dst:=some 117,op:=Op.call { callee:=Callee.value (Operand.func 77),args:=#[Operand.tmp 116],argTypes:=#[40] },type:=2,pos := "heap.go:242",after:=#[{ on:=11,ground:=Ground.data },{ on:=8,ground:=Ground.chain }],guard:=none }) rfl (fun K hK=>?_) AllReadyH.nil);go_simp;refine (num77i _ _ (by assumption) _).mono ?_;rintro e w2 ⟨rfl,rfl⟩;go_wp2_with fail
   refine hK.out _ _ ?_ (fun hHeld=>?_)
   ·first | exact ⟨r0',r1',r2',r3'⟩ | exact ⟨(HSet.out _ _).trans r0',(HSet.out _ _).trans r1',(HSet.out _ _).trans r2',(HSet.out _ _).trans r3'⟩
   clear hK K;(try simp only [Act.put,List.setIfInBounds_toArray,List.set_cons_zero,List.set_cons_succ])
   refine wpAnyH_ready (rs:=[16]) (by kernel_rfl) (by simp) ?_;refine (AllReadyH.cons (o:={ dst:=some 121,op:=Op.call { callee:=Callee.value (Operand.func 77),args:=#[Operand.tmp 120],argTypes:=#[40] },type:=2,pos := "heap.go:242",after:=#[{ on:=15,ground:=Ground.data },{ on:=12,ground:=Ground.chain }],guard:=none }) rfl (fun K hK=>?_) AllReadyH.nil);go_simp;refine (num77i _ _ (by assumption) _).mono ?_;rintro e w2 ⟨rfl,rfl⟩;go_wp2_with fail
   refine hK.out _ _ ?_ (fun hHeld=>?_)
   ·first | exact ⟨r0',r1',r2',r3'⟩ | exact ⟨(HSet.out _ _).trans r0',(HSet.out _ _).trans r1',(HSet.out _ _).trans r2',(HSet.out _ _).trans r3'⟩
   clear hK K;(try simp only [Act.put,List.setIfInBounds_toArray,List.set_cons_zero,List.set_cons_succ])
   refine wpAnyH_take (i:=18) (oi:={ dst:=some 123,op:=Op.build 38 #[(0,Operand.const (Value.int IntKind.i64 4)),(3,Operand.tmp 109),(2,Operand.tmp 113),(1,Operand.tmp 117),(5,Operand.tmp 121),(6,Operand.tmp 122)],type:=38,pos := "heap.go:242",after:=#[{ on:=4,ground:=Ground.data },{ on:=8,ground:=Ground.data },{ on:=12,ground:=Ground.data },{ on:=16,ground:=Ground.data },{ on:=17,ground:=Ground.data }],guard:=none }) (v:=?vvC18) rfl (by kernel_rfl) (by kernel_rfl) (by kernel_rfl) (fun _ _ _ h=>h) (Or.inl ⟨by rfl,?hyC18⟩) (by assumption) ?rsC18;case hyC18 =>
    intro w hSw;(try dsimp only at hSw)
    go_simp;(try with_reducible rfl)
   (try simp only [Act.put,List.setIfInBounds_toArray,List.set_cons_zero,List.set_cons_succ])
   refine wpAnyH_ready (rs:=[19]) (by kernel_rfl) (by simp) ?_
   refine (AllReadyH.cons (o:={ dst:=none,op:=Op.store 38 (Operand.tmp 4) (Operand.tmp 123),type:=0,pos := "heap.go:242",after:=#[{ on:=18,ground:=Ground.data },{ on:=16,ground:=Ground.chain },{ on:=0,ground:=Ground.phase },{ on:=1,ground:=Ground.phase },{ on:=2,ground:=Ground.phase },{ on:=3,ground:=Ground.phase },{ on:=4,ground:=Ground.phase },{ on:=5,ground:=Ground.phase },{ on:=6,ground:=Ground.phase },{ on:=7,ground:=Ground.phase },{ on:=8,ground:=Ground.phase },{ on:=9,ground:=Ground.phase },{ on:=10,ground:=Ground.phase },{ on:=11,ground:=Ground.phase },{ on:=12,ground:=Ground.phase },{ on:=13,ground:=Ground.phase },{ on:=14,ground:=Ground.phase },{ on:=15,ground:=Ground.phase },{ on:=16,ground:=Ground.phase },{ on:=17,ground:=Ground.phase },{ on:=18,ground:=Ground.phase }],guard:=none }) rfl (fun K hK=>?_) AllReadyH.nil)
   rw [if_pos (by rfl)];refine wp_store_row 38 (.tmp 4) (.tmp 123) rfl w.heap.size (C9f ⟨4,n2,n1,nm0,e0,n3,e0,0⟩ (.slice pv nv cv)) rfl rfl 38 zC HZd i38 rfl (nine1 _ rfl) ?_
   refine hK.out _ _ ?_ (fun hHeld=>?_)
   ·first | exact ⟨r0',r1',r2',r3'⟩ | exact ⟨(HSet.out _ _).trans r0',(HSet.out _ _).trans r1',(HSet.out _ _).trans r2',(HSet.out _ _).trans r3'⟩
   clear hK K;(try simp only [Act.put,List.setIfInBounds_toArray,List.set_cons_zero,List.set_cons_succ])
   refine wpAnyH_done (by kernel_rfl) ?_ _;go_wp2_with fail;refine bodyPost_ret (v:=aggV ⟨4,n2,n1,nm0,e0,n3,e0,0⟩ (.slice pv nv cv)) (ret_row rfl _ rfl (cs:=encR (⟨4,n2,n1,nm0,e0,n3,e0,0⟩,.slice pv nv cv)) rfl (range_blk (setRow_heap _ _ _ _ _ _ HZd))) rfl ⟨_,rows,w1.heap.size,rfl,Nat.le_of_lt HG.out.2,HRd.out.set HE.out HG.out.2 _,below_setRow HBd.out (Nat.le_refl _) _⟩
end
section
variable {w:World} {B z a b:Nat} {c:Int} {σ:St} {S:Nat→Prop}
theorem get_x2e (h:HQ w B z a b c σ S) (hY:σ.Y.length ≤ 100000) (hN:σ.N.length ≤ 500000) {v:Int} (v0:0 ≤ v) (v1:v ≤ 18446744073709551615) (hs:soOk v = false) (ha:aoOk v = false) {x:List Int} (hp:cl.Pt (Kb σ) v x) (hk:cl.knd x = 2) {k0 k1 k2 k3:Int} (hw:cl.wds x = [k0,k1,k2,k3]) (W0:0 ≤ k0∧k0 ≤ 18446744073709551615) (W1:0 ≤ k1∧k1 ≤ 18446744073709551615) (W2:0 ≤ k2∧k2 ≤ 18446744073709551615) (W3:0 ≤ k3∧k3 ≤ 18446744073709551615) :
 Calls Tryz.prog 86 #[.pointer (some ⟨z,0,none⟩),.int .u64 v] w (Get0 ⟨4,soN k2,soN k1,nameO σ k0,e0,soN k3,e0,0⟩ w):=by
 have HS:=Lib.hid (fun W=>words.SmallOf v v0 v1 W);rw [hs] at HS;have HA':=Lib.hid (fun W=>words.AtomOf v v0 v1 W);rw [ha] at HA';have hb0:Below w.heap.size w (w.alloc (.cells zC 38)):=belowA (Below.refl _ w) _;have hsz:(w.alloc (.cells zC 38)).heap.size = w.heap.size + 1:=World.size_alloc _ _;have HO:=Lib.hid (objQ2 h hY hb0 v0 v1 hp);rw [hk,hw] at HO;have HZ:=Lib.hid (heap_alloc_new w (.cells zC 38));have HB:=Lib.hid hb0;have HSZ:=Lib.hid hsz;have HQ0:=Lib.hid h;have HN0:=Lib.hid (fun W (hb:Below w.heap.size w W)=>name154 (h.below hb) hN k0 W0.1 W0.2)
 have m1:NumIs k1 (soN k1):=⟨W1.1,W1.2,rfl⟩;generalize soN k1 = n1 at *;have m2:NumIs k2 (soN k2):=⟨W2.1,W2.2,rfl⟩;generalize soN k2 = n2 at *;have m3:NumIs k3 (soN k3):=⟨W3.1,W3.2,rfl⟩;generalize soN k3 = n3 at *;generalize nameO σ k0 = nm0 at *;clear h hs ha hp hk hw hb0 hsz v0 v1 W0 W1 W2 W3;unfold Get0;go_enter Tryz.func86,Tryz.ntmps86;go_wp2_with fail;refine (HS.out _).mono ?_;rintro e w1 ⟨rfl,rfl⟩;go_wp2_with fail;refine (HA'.out _).mono ?_;rintro e w1 ⟨rfl,rfl⟩;go_wp2_with fail;refine HO.out.mono ?_;rintro e w1 ⟨u,rfl,hr,hb⟩;have HR:=Lib.hid hr;obtain ⟨p,k,e,hk1,hk2⟩:=hr.shape
 rw [e] at hr HR;obtain ⟨g,o,rfl,hml,hg,hc⟩:=hr.nth (by simp);subst e;have r0:w1.cell? ⟨g,o,none⟩ = some (.int .u64 k0):=by simpa using hc 0 k0 rfl 0 _ rfl
 have r1:w1.cell? ⟨g,o + 1,none⟩ = some (.int .u64 k1):=by simpa using hc 1 k1 rfl 0 _ rfl
 have r2:w1.cell? ⟨g,o + 2,none⟩ = some (.int .u64 k2):=by simpa using hc 2 k2 rfl 0 _ rfl
 have r3:w1.cell? ⟨g,o + 3,none⟩ = some (.int .u64 k3):=by simpa using hc 3 k3 rfl 0 _ rfl
 have HZ1:=Lib.hid ((hb.block w.heap.size (by have:=HSZ.out;omega)).trans HZ.out);have HB1:=Lib.hid (HB.out.trans (hb.mono HB.out.size));have HG:Hid (g < w.heap.size∧w.heap.size < w1.heap.size):=Lib.hid (by have:=HSZ.out;have:=hb.size;omega);have HFx:Hid (∀ W,Calls Tryz.prog 133 #[.int .i64 2,.slice (some ⟨g,o,none⟩) (4) k] W fun e w'=>e = .returned (.int .i64 ((4:Nat):Int))∧W = w'):=Lib.hid (fun W=>by
  have h:=cl.fixed114 W (some ⟨g,o,none⟩) (4) k 2
  simpa [cl.fxd] using h)
 have hk1':(4) = k∨(((4):Nat):Int) < (k:Int):=by
  have:(4) ≤ k:=by simpa using hk1
  omega
 clear hml hr hc hb hk1 hk2 HO HZ
 rcases hk1' with rfl | hk1'
 ·go_wp2_with fail;refine (HFx.out _).mono ?_;rintro e w2 ⟨rfl,rfl⟩;go_wp2_with fail;refine wp_loop_rounds 1 ?_;rw [rounds_succ];go_wp2_with fail;have HZd:w1.drew.heap[w.heap.size]? = some (.cells zC 38):=HZ1.out;have HBd:=Lib.hid (belowD HB1.out);have r0':w1.drew.cell? ⟨g,o,none⟩ = some (.int .u64 k0):=r0;have r1':w1.drew.cell? ⟨g,o + 1,none⟩ = some (.int .u64 k1):=r1;have r2':w1.drew.cell? ⟨g,o + 2,none⟩ = some (.int .u64 k2):=r2;have r3':w1.drew.cell? ⟨g,o + 3,none⟩ = some (.int .u64 k3):=r3
  have HSet:Hid (∀ q c,(w1.drew.setRow w.heap.size c).cell? ⟨g,q,none⟩ = w1.drew.cell? ⟨g,q,none⟩):=Lib.hid (fun q c=>World.cell?_of_block (w:=w1.drew) (a:=⟨g,q,none⟩) (setRow_other _ _ _ _ (show g ≠ w.heap.size by have:=HG.out;omega)));clear r0 r1 r2 r3;refine wp_region_held_drew (S:=fun W=>W.cell? ⟨g,o,none⟩ = some (.int .u64 k0)∧W.cell? ⟨g,o + 1,none⟩ = some (.int .u64 k1)∧W.cell? ⟨g,o + 2,none⟩ = some (.int .u64 k2)∧W.cell? ⟨g,o + 3,none⟩ = some (.int .u64 k3)) (by kernel_rfl) ⟨r0',r1',r2',r3'⟩ (fun hHeld=>?_)
  refine wpAnyH_take (i:=0) (oi:={ dst:=some 105,op:=Op.move (Operand.tmp 0),type:=34,pos := "heap.go:242",after:=#[],guard:=none }) (v:=?vvA0) rfl (by kernel_rfl) (by kernel_rfl) (by kernel_rfl) (fun _ _ _ h=>h) (Or.inl ⟨by rfl,?hyA0⟩) (by assumption) ?rsA0;case hyA0 =>
   intro w hSw;(try dsimp only at hSw)
   go_simp;(try with_reducible rfl)
  (try simp only [Act.put,List.setIfInBounds_toArray,List.set_cons_zero,List.set_cons_succ])
  refine wpAnyH_take (i:=1) (oi:={ dst:=some 106,op:=Op.move (Operand.tmp 10),type:=22,pos := "heap.go:242",after:=#[],guard:=none }) (v:=?vvA1) rfl (by kernel_rfl) (by kernel_rfl) (by kernel_rfl) (fun _ _ _ h=>h) (Or.inl ⟨by rfl,?hyA1⟩) (by assumption) ?rsA1;case hyA1 =>
   intro w hSw;(try dsimp only at hSw)
   go_simp;(try with_reducible rfl)
  (try simp only [Act.put,List.setIfInBounds_toArray,List.set_cons_zero,List.set_cons_succ])
  refine wpAnyH_take (i:=2) (oi:={ dst:=some 107,op:=Op.indexAddr 22 (Operand.tmp 106) (Operand.const (Value.int IntKind.i64 0)),type:=0,pos := "heap.go:242",after:=#[{ on:=1,ground:=Ground.data }],guard:=none }) (v:=?vvA2) rfl (by kernel_rfl) (by kernel_rfl) (by kernel_rfl) (fun _ _ _ h=>h) (Or.inl ⟨by rfl,?hyA2⟩) (by assumption) ?rsA2;case hyA2 =>
   intro w hSw;(try dsimp only at hSw)
   go_simp;(try with_reducible rfl)
  (try simp only [Act.put,List.setIfInBounds_toArray,List.set_cons_zero,List.set_cons_succ])
  refine wpAnyH_take (i:=3) (oi:={ dst:=some 108,op:=Op.load 40 (Operand.tmp 107),type:=40,pos := "heap.go:242",after:=#[{ on:=2,ground:=Ground.data }],guard:=none }) (v:=?vvA3) rfl (by kernel_rfl) (by kernel_rfl) (by kernel_rfl) (fun _ _ _ h=>h) (Or.inl ⟨by rfl,?hyA3⟩) (by assumption) ?rsA3;case hyA3 =>
   intro w hSw;(try dsimp only at hSw)
   go_simp;(try with_reducible rfl)
  (try simp only [Act.put,List.setIfInBounds_toArray,List.set_cons_zero,List.set_cons_succ])
  refine wpAnyH_take (i:=5) (oi:={ dst:=some 110,op:=Op.move (Operand.tmp 10),type:=22,pos := "heap.go:242",after:=#[],guard:=none }) (v:=?vvA5) rfl (by kernel_rfl) (by kernel_rfl) (by kernel_rfl) (fun _ _ _ h=>h) (Or.inl ⟨by rfl,?hyA5⟩) (by assumption) ?rsA5;case hyA5 =>
   intro w hSw;(try dsimp only at hSw)
   go_simp;(try with_reducible rfl)
  (try simp only [Act.put,List.setIfInBounds_toArray,List.set_cons_zero,List.set_cons_succ])
  refine wpAnyH_take (i:=6) (oi:={ dst:=some 111,op:=Op.indexAddr 22 (Operand.tmp 110) (Operand.const (Value.int IntKind.i64 1)),type:=0,pos := "heap.go:242",after:=#[{ on:=5,ground:=Ground.data }],guard:=none }) (v:=?vvA6) rfl (by kernel_rfl) (by kernel_rfl) (by kernel_rfl) (fun _ _ _ h=>h) (Or.inl ⟨by rfl,?hyA6⟩) (by assumption) ?rsA6;case hyA6 =>
   intro w hSw;(try dsimp only at hSw)
   go_simp;(try with_reducible rfl)
  (try simp only [Act.put,List.setIfInBounds_toArray,List.set_cons_zero,List.set_cons_succ])
  refine wpAnyH_take (i:=7) (oi:={ dst:=some 112,op:=Op.load 40 (Operand.tmp 111),type:=40,pos := "heap.go:242",after:=#[{ on:=6,ground:=Ground.data }],guard:=none }) (v:=?vvA7) rfl (by kernel_rfl) (by kernel_rfl) (by kernel_rfl) (fun _ _ _ h=>h) (Or.inl ⟨by rfl,?hyA7⟩) (by assumption) ?rsA7;case hyA7 =>
   intro w hSw;(try dsimp only at hSw)
   go_simp;(try with_reducible rfl)
  (try simp only [Act.put,List.setIfInBounds_toArray,List.set_cons_zero,List.set_cons_succ])
  refine wpAnyH_take (i:=9) (oi:={ dst:=some 114,op:=Op.move (Operand.tmp 10),type:=22,pos := "heap.go:242",after:=#[],guard:=none }) (v:=?vvA9) rfl (by kernel_rfl) (by kernel_rfl) (by kernel_rfl) (fun _ _ _ h=>h) (Or.inl ⟨by rfl,?hyA9⟩) (by assumption) ?rsA9;case hyA9 =>
   intro w hSw;(try dsimp only at hSw)
   go_simp;(try with_reducible rfl)
  (try simp only [Act.put,List.setIfInBounds_toArray,List.set_cons_zero,List.set_cons_succ])
  refine wpAnyH_take (i:=10) (oi:={ dst:=some 115,op:=Op.indexAddr 22 (Operand.tmp 114) (Operand.const (Value.int IntKind.i64 2)),type:=0,pos := "heap.go:242",after:=#[{ on:=9,ground:=Ground.data }],guard:=none }) (v:=?vvA10) rfl (by kernel_rfl) (by kernel_rfl) (by kernel_rfl) (fun _ _ _ h=>h) (Or.inl ⟨by rfl,?hyA10⟩) (by assumption) ?rsA10;case hyA10 =>
   intro w hSw;(try dsimp only at hSw)
   go_simp;(try with_reducible rfl)
  (try simp only [Act.put,List.setIfInBounds_toArray,List.set_cons_zero,List.set_cons_succ])
  refine wpAnyH_take (i:=11) (oi:={ dst:=some 116,op:=Op.load 40 (Operand.tmp 115),type:=40,pos := "heap.go:242",after:=#[{ on:=10,ground:=Ground.data }],guard:=none }) (v:=?vvA11) rfl (by kernel_rfl) (by kernel_rfl) (by kernel_rfl) (fun _ _ _ h=>h) (Or.inl ⟨by rfl,?hyA11⟩) (by assumption) ?rsA11;case hyA11 =>
   intro w hSw;(try dsimp only at hSw)
   go_simp;(try with_reducible rfl)
  (try simp only [Act.put,List.setIfInBounds_toArray,List.set_cons_zero,List.set_cons_succ])
  refine wpAnyH_take (i:=13) (oi:={ dst:=some 118,op:=Op.move (Operand.tmp 10),type:=22,pos := "heap.go:242",after:=#[],guard:=none }) (v:=?vvA13) rfl (by kernel_rfl) (by kernel_rfl) (by kernel_rfl) (fun _ _ _ h=>h) (Or.inl ⟨by rfl,?hyA13⟩) (by assumption) ?rsA13;case hyA13 =>
   intro w hSw;(try dsimp only at hSw)
   go_simp;(try with_reducible rfl)
  (try simp only [Act.put,List.setIfInBounds_toArray,List.set_cons_zero,List.set_cons_succ])
  refine wpAnyH_take (i:=14) (oi:={ dst:=some 119,op:=Op.indexAddr 22 (Operand.tmp 118) (Operand.const (Value.int IntKind.i64 3)),type:=0,pos := "heap.go:242",after:=#[{ on:=13,ground:=Ground.data }],guard:=none }) (v:=?vvA14) rfl (by kernel_rfl) (by kernel_rfl) (by kernel_rfl) (fun _ _ _ h=>h) (Or.inl ⟨by rfl,?hyA14⟩) (by assumption) ?rsA14;case hyA14 =>
   intro w hSw;(try dsimp only at hSw)
   go_simp;(try with_reducible rfl)
  (try simp only [Act.put,List.setIfInBounds_toArray,List.set_cons_zero,List.set_cons_succ])
  refine wpAnyH_take (i:=15) (oi:={ dst:=some 120,op:=Op.load 40 (Operand.tmp 119),type:=40,pos := "heap.go:242",after:=#[{ on:=14,ground:=Ground.data }],guard:=none }) (v:=?vvA15) rfl (by kernel_rfl) (by kernel_rfl) (by kernel_rfl) (fun _ _ _ h=>h) (Or.inl ⟨by rfl,?hyA15⟩) (by assumption) ?rsA15;case hyA15 =>
   intro w hSw;(try dsimp only at hSw)
   go_simp;(try with_reducible rfl)
  (try simp only [Act.put,List.setIfInBounds_toArray,List.set_cons_zero,List.set_cons_succ])
  refine wpAnyH_take (i:=17) (oi:={ dst:=some 122,op:=Op.move (Operand.tmp 12),type:=36,pos := "heap.go:242",after:=#[],guard:=none }) (v:=?vvA17) rfl (by kernel_rfl) (by kernel_rfl) (by kernel_rfl) (fun _ _ _ h=>h) (Or.inl ⟨by rfl,?hyA17⟩) (by assumption) ?rsA17;case hyA17 =>
   intro w hSw;(try dsimp only at hSw)
   go_simp;(try with_reducible rfl)
  (try simp only [Act.put,List.setIfInBounds_toArray,List.set_cons_zero,List.set_cons_succ])
  refine wpAnyH_ready (rs:=[4]) (by kernel_rfl) (by simp) ?_;refine (AllReadyH.cons (o:={ dst:=some 109,op:=Op.call { callee:=Callee.value (Operand.func 154),args:=#[Operand.tmp 105,Operand.tmp 108],argTypes:=#[34,40] },type:=9,pos := "heap.go:242",after:=#[{ on:=0,ground:=Ground.data },{ on:=3,ground:=Ground.data }],guard:=none }) rfl (fun K hK=>?_) AllReadyH.nil);go_simp;refine (HN0.out _ HBd.out).mono ?_;rintro e w2 ⟨rfl,rfl⟩;go_wp2_with fail
  refine hK.out _ _ ?_ (fun hHeld=>?_)
  ·first | exact ⟨r0',r1',r2',r3'⟩ | exact ⟨(HSet.out _ _).trans r0',(HSet.out _ _).trans r1',(HSet.out _ _).trans r2',(HSet.out _ _).trans r3'⟩
  clear hK K;(try simp only [Act.put,List.setIfInBounds_toArray,List.set_cons_zero,List.set_cons_succ])
  refine wpAnyH_ready (rs:=[8]) (by kernel_rfl) (by simp) ?_;refine (AllReadyH.cons (o:={ dst:=some 113,op:=Op.call { callee:=Callee.value (Operand.func 77),args:=#[Operand.tmp 112],argTypes:=#[40] },type:=2,pos := "heap.go:242",after:=#[{ on:=7,ground:=Ground.data },{ on:=4,ground:=Ground.chain }],guard:=none }) rfl (fun K hK=>?_) AllReadyH.nil);go_simp;refine (num77i _ _ (by assumption) _).mono ?_;rintro e w2 ⟨rfl,rfl⟩;go_wp2_with fail
  refine hK.out _ _ ?_ (fun hHeld=>?_)
  ·first | exact ⟨r0',r1',r2',r3'⟩ | exact ⟨(HSet.out _ _).trans r0',(HSet.out _ _).trans r1',(HSet.out _ _).trans r2',(HSet.out _ _).trans r3'⟩
  clear hK K;(try simp only [Act.put,List.setIfInBounds_toArray,List.set_cons_zero,List.set_cons_succ])
  refine wpAnyH_ready (rs:=[12]) (by kernel_rfl) (by simp) ?_;refine (AllReadyH.cons (o:={ dst:=some 117,op:=Op.call { callee:=Callee.value (Operand.func 77),args:=#[Operand.tmp 116],argTypes:=#[40] },type:=2,pos := "heap.go:242",after:=#[{ on:=11,ground:=Ground.data },{ on:=8,ground:=Ground.chain }],guard:=none }) rfl (fun K hK=>?_) AllReadyH.nil);go_simp;refine (num77i _ _ (by assumption) _).mono ?_;rintro e w2 ⟨rfl,rfl⟩;go_wp2_with fail
  refine hK.out _ _ ?_ (fun hHeld=>?_)
  ·first | exact ⟨r0',r1',r2',r3'⟩ | exact ⟨(HSet.out _ _).trans r0',(HSet.out _ _).trans r1',(HSet.out _ _).trans r2',(HSet.out _ _).trans r3'⟩
  clear hK K;(try simp only [Act.put,List.setIfInBounds_toArray,List.set_cons_zero,List.set_cons_succ])
  refine wpAnyH_ready (rs:=[16]) (by kernel_rfl) (by simp) ?_;refine (AllReadyH.cons (o:={ dst:=some 121,op:=Op.call { callee:=Callee.value (Operand.func 77),args:=#[Operand.tmp 120],argTypes:=#[40] },type:=2,pos := "heap.go:242",after:=#[{ on:=15,ground:=Ground.data },{ on:=12,ground:=Ground.chain }],guard:=none }) rfl (fun K hK=>?_) AllReadyH.nil);go_simp;refine (num77i _ _ (by assumption) _).mono ?_;rintro e w2 ⟨rfl,rfl⟩;go_wp2_with fail
  refine hK.out _ _ ?_ (fun hHeld=>?_)
  ·first | exact ⟨r0',r1',r2',r3'⟩ | exact ⟨(HSet.out _ _).trans r0',(HSet.out _ _).trans r1',(HSet.out _ _).trans r2',(HSet.out _ _).trans r3'⟩
  clear hK K;(try simp only [Act.put,List.setIfInBounds_toArray,List.set_cons_zero,List.set_cons_succ])
  refine wpAnyH_take (i:=18) (oi:={ dst:=some 123,op:=Op.build 38 #[(0,Operand.const (Value.int IntKind.i64 4)),(3,Operand.tmp 109),(2,Operand.tmp 113),(1,Operand.tmp 117),(5,Operand.tmp 121),(6,Operand.tmp 122)],type:=38,pos := "heap.go:242",after:=#[{ on:=4,ground:=Ground.data },{ on:=8,ground:=Ground.data },{ on:=12,ground:=Ground.data },{ on:=16,ground:=Ground.data },{ on:=17,ground:=Ground.data }],guard:=none }) (v:=?vvA18) rfl (by kernel_rfl) (by kernel_rfl) (by kernel_rfl) (fun _ _ _ h=>h) (Or.inl ⟨by rfl,?hyA18⟩) (by assumption) ?rsA18;case hyA18 =>
   intro w hSw;(try dsimp only at hSw)
   go_simp;(try with_reducible rfl)
  (try simp only [Act.put,List.setIfInBounds_toArray,List.set_cons_zero,List.set_cons_succ])
  refine wpAnyH_ready (rs:=[19]) (by kernel_rfl) (by simp) ?_
  refine (AllReadyH.cons (o:={ dst:=none,op:=Op.store 38 (Operand.tmp 4) (Operand.tmp 123),type:=0,pos := "heap.go:242",after:=#[{ on:=18,ground:=Ground.data },{ on:=16,ground:=Ground.chain },{ on:=0,ground:=Ground.phase },{ on:=1,ground:=Ground.phase },{ on:=2,ground:=Ground.phase },{ on:=3,ground:=Ground.phase },{ on:=4,ground:=Ground.phase },{ on:=5,ground:=Ground.phase },{ on:=6,ground:=Ground.phase },{ on:=7,ground:=Ground.phase },{ on:=8,ground:=Ground.phase },{ on:=9,ground:=Ground.phase },{ on:=10,ground:=Ground.phase },{ on:=11,ground:=Ground.phase },{ on:=12,ground:=Ground.phase },{ on:=13,ground:=Ground.phase },{ on:=14,ground:=Ground.phase },{ on:=15,ground:=Ground.phase },{ on:=16,ground:=Ground.phase },{ on:=17,ground:=Ground.phase },{ on:=18,ground:=Ground.phase }],guard:=none }) rfl (fun K hK=>?_) AllReadyH.nil)
  rw [if_pos (by rfl)];refine wp_store_row 38 (.tmp 4) (.tmp 123) rfl w.heap.size (C9f ⟨4,n2,n1,nm0,e0,n3,e0,0⟩ nilV) rfl rfl 38 zC HZd i38 rfl (nine1 _ rfl) ?_
  refine hK.out _ _ ?_ (fun hHeld=>?_)
  ·first | exact ⟨r0',r1',r2',r3'⟩ | exact ⟨(HSet.out _ _).trans r0',(HSet.out _ _).trans r1',(HSet.out _ _).trans r2',(HSet.out _ _).trans r3'⟩
  clear hK K;(try simp only [Act.put,List.setIfInBounds_toArray,List.set_cons_zero,List.set_cons_succ])
  refine wpAnyH_done (by kernel_rfl) ?_ _;go_wp2_with fail;refine bodyPost_ret (v:=aggV ⟨4,n2,n1,nm0,e0,n3,e0,0⟩ nilV) (ret_row rfl _ rfl (cs:=encR (⟨4,n2,n1,nm0,e0,n3,e0,0⟩,nilV)) rfl (range_blk (setRow_heap _ _ _ _ _ _ HZd))) rfl ⟨rfl,below_setRow HBd.out (Nat.le_refl _) _⟩
 ·go_wp2_with fail;refine (HFx.out _).mono ?_;rintro e w2 ⟨rfl,rfl⟩;go_wp2_with fail;refine wp_loop_rounds 1 ?_;rw [rounds_succ];go_wp2_with fail;have HZd:w1.drew.heap[w.heap.size]? = some (.cells zC 38):=HZ1.out;have HBd:=Lib.hid (belowD HB1.out);have r0':w1.drew.cell? ⟨g,o,none⟩ = some (.int .u64 k0):=r0;have r1':w1.drew.cell? ⟨g,o + 1,none⟩ = some (.int .u64 k1):=r1;have r2':w1.drew.cell? ⟨g,o + 2,none⟩ = some (.int .u64 k2):=r2;have r3':w1.drew.cell? ⟨g,o + 3,none⟩ = some (.int .u64 k3):=r3
  have HSet:Hid (∀ q c,(w1.drew.setRow w.heap.size c).cell? ⟨g,q,none⟩ = w1.drew.cell? ⟨g,q,none⟩):=Lib.hid (fun q c=>World.cell?_of_block (w:=w1.drew) (a:=⟨g,q,none⟩) (setRow_other _ _ _ _ (show g ≠ w.heap.size by have:=HG.out;omega)));clear r0 r1 r2 r3;refine wp_region_held_drew (S:=fun W=>W.cell? ⟨g,o,none⟩ = some (.int .u64 k0)∧W.cell? ⟨g,o + 1,none⟩ = some (.int .u64 k1)∧W.cell? ⟨g,o + 2,none⟩ = some (.int .u64 k2)∧W.cell? ⟨g,o + 3,none⟩ = some (.int .u64 k3)) (by kernel_rfl) ⟨r0',r1',r2',r3'⟩ (fun hHeld=>?_)
  refine wpAnyH_take (i:=0) (oi:={ dst:=some 105,op:=Op.move (Operand.tmp 0),type:=34,pos := "heap.go:242",after:=#[],guard:=none }) (v:=?vvB0) rfl (by kernel_rfl) (by kernel_rfl) (by kernel_rfl) (fun _ _ _ h=>h) (Or.inl ⟨by rfl,?hyB0⟩) (by assumption) ?rsB0;case hyB0 =>
   intro w hSw;(try dsimp only at hSw)
   go_simp;(try with_reducible rfl)
  (try simp only [Act.put,List.setIfInBounds_toArray,List.set_cons_zero,List.set_cons_succ])
  refine wpAnyH_take (i:=1) (oi:={ dst:=some 106,op:=Op.move (Operand.tmp 10),type:=22,pos := "heap.go:242",after:=#[],guard:=none }) (v:=?vvB1) rfl (by kernel_rfl) (by kernel_rfl) (by kernel_rfl) (fun _ _ _ h=>h) (Or.inl ⟨by rfl,?hyB1⟩) (by assumption) ?rsB1;case hyB1 =>
   intro w hSw;(try dsimp only at hSw)
   go_simp;(try with_reducible rfl)
  (try simp only [Act.put,List.setIfInBounds_toArray,List.set_cons_zero,List.set_cons_succ])
  refine wpAnyH_take (i:=2) (oi:={ dst:=some 107,op:=Op.indexAddr 22 (Operand.tmp 106) (Operand.const (Value.int IntKind.i64 0)),type:=0,pos := "heap.go:242",after:=#[{ on:=1,ground:=Ground.data }],guard:=none }) (v:=?vvB2) rfl (by kernel_rfl) (by kernel_rfl) (by kernel_rfl) (fun _ _ _ h=>h) (Or.inl ⟨by rfl,?hyB2⟩) (by assumption) ?rsB2;case hyB2 =>
   intro w hSw;(try dsimp only at hSw)
   go_simp;(try with_reducible rfl)
  (try simp only [Act.put,List.setIfInBounds_toArray,List.set_cons_zero,List.set_cons_succ])
  refine wpAnyH_take (i:=3) (oi:={ dst:=some 108,op:=Op.load 40 (Operand.tmp 107),type:=40,pos := "heap.go:242",after:=#[{ on:=2,ground:=Ground.data }],guard:=none }) (v:=?vvB3) rfl (by kernel_rfl) (by kernel_rfl) (by kernel_rfl) (fun _ _ _ h=>h) (Or.inl ⟨by rfl,?hyB3⟩) (by assumption) ?rsB3;case hyB3 =>
   intro w hSw;(try dsimp only at hSw)
   go_simp;(try with_reducible rfl)
  (try simp only [Act.put,List.setIfInBounds_toArray,List.set_cons_zero,List.set_cons_succ])
  refine wpAnyH_take (i:=5) (oi:={ dst:=some 110,op:=Op.move (Operand.tmp 10),type:=22,pos := "heap.go:242",after:=#[],guard:=none }) (v:=?vvB5) rfl (by kernel_rfl) (by kernel_rfl) (by kernel_rfl) (fun _ _ _ h=>h) (Or.inl ⟨by rfl,?hyB5⟩) (by assumption) ?rsB5;case hyB5 =>
   intro w hSw;(try dsimp only at hSw)
   go_simp;(try with_reducible rfl)
  (try simp only [Act.put,List.setIfInBounds_toArray,List.set_cons_zero,List.set_cons_succ])
  refine wpAnyH_take (i:=6) (oi:={ dst:=some 111,op:=Op.indexAddr 22 (Operand.tmp 110) (Operand.const (Value.int IntKind.i64 1)),type:=0,pos := "heap.go:242",after:=#[{ on:=5,ground:=Ground.data }],guard:=none }) (v:=?vvB6) rfl (by kernel_rfl) (by kernel_rfl) (by kernel_rfl) (fun _ _ _ h=>h) (Or.inl ⟨by rfl,?hyB6⟩) (by assumption) ?rsB6;case hyB6 =>
   intro w hSw;(try dsimp only at hSw)
   go_simp;(try with_reducible rfl)
  (try simp only [Act.put,List.setIfInBounds_toArray,List.set_cons_zero,List.set_cons_succ])
  refine wpAnyH_take (i:=7) (oi:={ dst:=some 112,op:=Op.load 40 (Operand.tmp 111),type:=40,pos := "heap.go:242",after:=#[{ on:=6,ground:=Ground.data }],guard:=none }) (v:=?vvB7) rfl (by kernel_rfl) (by kernel_rfl) (by kernel_rfl) (fun _ _ _ h=>h) (Or.inl ⟨by rfl,?hyB7⟩) (by assumption) ?rsB7;case hyB7 =>
   intro w hSw;(try dsimp only at hSw)
   go_simp;(try with_reducible rfl)
  (try simp only [Act.put,List.setIfInBounds_toArray,List.set_cons_zero,List.set_cons_succ])
  refine wpAnyH_take (i:=9) (oi:={ dst:=some 114,op:=Op.move (Operand.tmp 10),type:=22,pos := "heap.go:242",after:=#[],guard:=none }) (v:=?vvB9) rfl (by kernel_rfl) (by kernel_rfl) (by kernel_rfl) (fun _ _ _ h=>h) (Or.inl ⟨by rfl,?hyB9⟩) (by assumption) ?rsB9;case hyB9 =>
   intro w hSw;(try dsimp only at hSw)
   go_simp;(try with_reducible rfl)
  (try simp only [Act.put,List.setIfInBounds_toArray,List.set_cons_zero,List.set_cons_succ])
  refine wpAnyH_take (i:=10) (oi:={ dst:=some 115,op:=Op.indexAddr 22 (Operand.tmp 114) (Operand.const (Value.int IntKind.i64 2)),type:=0,pos := "heap.go:242",after:=#[{ on:=9,ground:=Ground.data }],guard:=none }) (v:=?vvB10) rfl (by kernel_rfl) (by kernel_rfl) (by kernel_rfl) (fun _ _ _ h=>h) (Or.inl ⟨by rfl,?hyB10⟩) (by assumption) ?rsB10;case hyB10 =>
   intro w hSw;(try dsimp only at hSw)
   go_simp;(try with_reducible rfl)
  (try simp only [Act.put,List.setIfInBounds_toArray,List.set_cons_zero,List.set_cons_succ])
  refine wpAnyH_take (i:=11) (oi:={ dst:=some 116,op:=Op.load 40 (Operand.tmp 115),type:=40,pos := "heap.go:242",after:=#[{ on:=10,ground:=Ground.data }],guard:=none }) (v:=?vvB11) rfl (by kernel_rfl) (by kernel_rfl) (by kernel_rfl) (fun _ _ _ h=>h) (Or.inl ⟨by rfl,?hyB11⟩) (by assumption) ?rsB11;case hyB11 =>
   intro w hSw;(try dsimp only at hSw)
   go_simp;(try with_reducible rfl)
  (try simp only [Act.put,List.setIfInBounds_toArray,List.set_cons_zero,List.set_cons_succ])
  refine wpAnyH_take (i:=13) (oi:={ dst:=some 118,op:=Op.move (Operand.tmp 10),type:=22,pos := "heap.go:242",after:=#[],guard:=none }) (v:=?vvB13) rfl (by kernel_rfl) (by kernel_rfl) (by kernel_rfl) (fun _ _ _ h=>h) (Or.inl ⟨by rfl,?hyB13⟩) (by assumption) ?rsB13;case hyB13 =>
   intro w hSw;(try dsimp only at hSw)
   go_simp;(try with_reducible rfl)
  (try simp only [Act.put,List.setIfInBounds_toArray,List.set_cons_zero,List.set_cons_succ])
  refine wpAnyH_take (i:=14) (oi:={ dst:=some 119,op:=Op.indexAddr 22 (Operand.tmp 118) (Operand.const (Value.int IntKind.i64 3)),type:=0,pos := "heap.go:242",after:=#[{ on:=13,ground:=Ground.data }],guard:=none }) (v:=?vvB14) rfl (by kernel_rfl) (by kernel_rfl) (by kernel_rfl) (fun _ _ _ h=>h) (Or.inl ⟨by rfl,?hyB14⟩) (by assumption) ?rsB14;case hyB14 =>
   intro w hSw;(try dsimp only at hSw)
   go_simp;(try with_reducible rfl)
  (try simp only [Act.put,List.setIfInBounds_toArray,List.set_cons_zero,List.set_cons_succ])
  refine wpAnyH_take (i:=15) (oi:={ dst:=some 120,op:=Op.load 40 (Operand.tmp 119),type:=40,pos := "heap.go:242",after:=#[{ on:=14,ground:=Ground.data }],guard:=none }) (v:=?vvB15) rfl (by kernel_rfl) (by kernel_rfl) (by kernel_rfl) (fun _ _ _ h=>h) (Or.inl ⟨by rfl,?hyB15⟩) (by assumption) ?rsB15;case hyB15 =>
   intro w hSw;(try dsimp only at hSw)
   go_simp;(try with_reducible rfl)
  (try simp only [Act.put,List.setIfInBounds_toArray,List.set_cons_zero,List.set_cons_succ])
  refine wpAnyH_take (i:=17) (oi:={ dst:=some 122,op:=Op.move (Operand.tmp 12),type:=36,pos := "heap.go:242",after:=#[],guard:=none }) (v:=?vvB17) rfl (by kernel_rfl) (by kernel_rfl) (by kernel_rfl) (fun _ _ _ h=>h) (Or.inl ⟨by rfl,?hyB17⟩) (by assumption) ?rsB17;case hyB17 =>
   intro w hSw;(try dsimp only at hSw)
   go_simp;(try with_reducible rfl)
  (try simp only [Act.put,List.setIfInBounds_toArray,List.set_cons_zero,List.set_cons_succ])
  refine wpAnyH_ready (rs:=[4]) (by kernel_rfl) (by simp) ?_;refine (AllReadyH.cons (o:={ dst:=some 109,op:=Op.call { callee:=Callee.value (Operand.func 154),args:=#[Operand.tmp 105,Operand.tmp 108],argTypes:=#[34,40] },type:=9,pos := "heap.go:242",after:=#[{ on:=0,ground:=Ground.data },{ on:=3,ground:=Ground.data }],guard:=none }) rfl (fun K hK=>?_) AllReadyH.nil);go_simp;refine (HN0.out _ HBd.out).mono ?_;rintro e w2 ⟨rfl,rfl⟩;go_wp2_with fail
  refine hK.out _ _ ?_ (fun hHeld=>?_)
  ·first | exact ⟨r0',r1',r2',r3'⟩ | exact ⟨(HSet.out _ _).trans r0',(HSet.out _ _).trans r1',(HSet.out _ _).trans r2',(HSet.out _ _).trans r3'⟩
  clear hK K;(try simp only [Act.put,List.setIfInBounds_toArray,List.set_cons_zero,List.set_cons_succ])
  refine wpAnyH_ready (rs:=[8]) (by kernel_rfl) (by simp) ?_;refine (AllReadyH.cons (o:={ dst:=some 113,op:=Op.call { callee:=Callee.value (Operand.func 77),args:=#[Operand.tmp 112],argTypes:=#[40] },type:=2,pos := "heap.go:242",after:=#[{ on:=7,ground:=Ground.data },{ on:=4,ground:=Ground.chain }],guard:=none }) rfl (fun K hK=>?_) AllReadyH.nil);go_simp;refine (num77i _ _ (by assumption) _).mono ?_;rintro e w2 ⟨rfl,rfl⟩;go_wp2_with fail
  refine hK.out _ _ ?_ (fun hHeld=>?_)
  ·first | exact ⟨r0',r1',r2',r3'⟩ | exact ⟨(HSet.out _ _).trans r0',(HSet.out _ _).trans r1',(HSet.out _ _).trans r2',(HSet.out _ _).trans r3'⟩
  clear hK K;(try simp only [Act.put,List.setIfInBounds_toArray,List.set_cons_zero,List.set_cons_succ])
  refine wpAnyH_ready (rs:=[12]) (by kernel_rfl) (by simp) ?_;refine (AllReadyH.cons (o:={ dst:=some 117,op:=Op.call { callee:=Callee.value (Operand.func 77),args:=#[Operand.tmp 116],argTypes:=#[40] },type:=2,pos := "heap.go:242",after:=#[{ on:=11,ground:=Ground.data },{ on:=8,ground:=Ground.chain }],guard:=none }) rfl (fun K hK=>?_) AllReadyH.nil);go_simp;refine (num77i _ _ (by assumption) _).mono ?_;rintro e w2 ⟨rfl,rfl⟩;go_wp2_with fail
  refine hK.out _ _ ?_ (fun hHeld=>?_)
  ·first | exact ⟨r0',r1',r2',r3'⟩ | exact ⟨(HSet.out _ _).trans r0',(HSet.out _ _).trans r1',(HSet.out _ _).trans r2',(HSet.out _ _).trans r3'⟩
  clear hK K;(try simp only [Act.put,List.setIfInBounds_toArray,List.set_cons_zero,List.set_cons_succ])
  refine wpAnyH_ready (rs:=[16]) (by kernel_rfl) (by simp) ?_;refine (AllReadyH.cons (o:={ dst:=some 121,op:=Op.call { callee:=Callee.value (Operand.func 77),args:=#[Operand.tmp 120],argTypes:=#[40] },type:=2,pos := "heap.go:242",after:=#[{ on:=15,ground:=Ground.data },{ on:=12,ground:=Ground.chain }],guard:=none }) rfl (fun K hK=>?_) AllReadyH.nil);go_simp;refine (num77i _ _ (by assumption) _).mono ?_;rintro e w2 ⟨rfl,rfl⟩;go_wp2_with fail
  refine hK.out _ _ ?_ (fun hHeld=>?_)
  ·first | exact ⟨r0',r1',r2',r3'⟩ | exact ⟨(HSet.out _ _).trans r0',(HSet.out _ _).trans r1',(HSet.out _ _).trans r2',(HSet.out _ _).trans r3'⟩
  clear hK K;(try simp only [Act.put,List.setIfInBounds_toArray,List.set_cons_zero,List.set_cons_succ])
  refine wpAnyH_take (i:=18) (oi:={ dst:=some 123,op:=Op.build 38 #[(0,Operand.const (Value.int IntKind.i64 4)),(3,Operand.tmp 109),(2,Operand.tmp 113),(1,Operand.tmp 117),(5,Operand.tmp 121),(6,Operand.tmp 122)],type:=38,pos := "heap.go:242",after:=#[{ on:=4,ground:=Ground.data },{ on:=8,ground:=Ground.data },{ on:=12,ground:=Ground.data },{ on:=16,ground:=Ground.data },{ on:=17,ground:=Ground.data }],guard:=none }) (v:=?vvB18) rfl (by kernel_rfl) (by kernel_rfl) (by kernel_rfl) (fun _ _ _ h=>h) (Or.inl ⟨by rfl,?hyB18⟩) (by assumption) ?rsB18;case hyB18 =>
   intro w hSw;(try dsimp only at hSw)
   go_simp;(try with_reducible rfl)
  (try simp only [Act.put,List.setIfInBounds_toArray,List.set_cons_zero,List.set_cons_succ])
  refine wpAnyH_ready (rs:=[19]) (by kernel_rfl) (by simp) ?_
  refine (AllReadyH.cons (o:={ dst:=none,op:=Op.store 38 (Operand.tmp 4) (Operand.tmp 123),type:=0,pos := "heap.go:242",after:=#[{ on:=18,ground:=Ground.data },{ on:=16,ground:=Ground.chain },{ on:=0,ground:=Ground.phase },{ on:=1,ground:=Ground.phase },{ on:=2,ground:=Ground.phase },{ on:=3,ground:=Ground.phase },{ on:=4,ground:=Ground.phase },{ on:=5,ground:=Ground.phase },{ on:=6,ground:=Ground.phase },{ on:=7,ground:=Ground.phase },{ on:=8,ground:=Ground.phase },{ on:=9,ground:=Ground.phase },{ on:=10,ground:=Ground.phase },{ on:=11,ground:=Ground.phase },{ on:=12,ground:=Ground.phase },{ on:=13,ground:=Ground.phase },{ on:=14,ground:=Ground.phase },{ on:=15,ground:=Ground.phase },{ on:=16,ground:=Ground.phase },{ on:=17,ground:=Ground.phase },{ on:=18,ground:=Ground.phase }],guard:=none }) rfl (fun K hK=>?_) AllReadyH.nil)
  rw [if_pos (by rfl)];refine wp_store_row 38 (.tmp 4) (.tmp 123) rfl w.heap.size (C9f ⟨4,n2,n1,nm0,e0,n3,e0,0⟩ nilV) rfl rfl 38 zC HZd i38 rfl (nine1 _ rfl) ?_
  refine hK.out _ _ ?_ (fun hHeld=>?_)
  ·first | exact ⟨r0',r1',r2',r3'⟩ | exact ⟨(HSet.out _ _).trans r0',(HSet.out _ _).trans r1',(HSet.out _ _).trans r2',(HSet.out _ _).trans r3'⟩
  clear hK K;(try simp only [Act.put,List.setIfInBounds_toArray,List.set_cons_zero,List.set_cons_succ])
  refine wpAnyH_done (by kernel_rfl) ?_ _;go_wp2_with fail;refine bodyPost_ret (v:=aggV ⟨4,n2,n1,nm0,e0,n3,e0,0⟩ nilV) (ret_row rfl _ rfl (cs:=encR (⟨4,n2,n1,nm0,e0,n3,e0,0⟩,nilV)) rfl (range_blk (setRow_heap _ _ _ _ _ _ HZd))) rfl ⟨rfl,below_setRow HBd.out (Nat.le_refl _) _⟩
theorem get_x1e (h:HQ w B z a b c σ S) (hY:σ.Y.length ≤ 100000) (hN:σ.N.length ≤ 500000) {v:Int} (v0:0 ≤ v) (v1:v ≤ 18446744073709551615) (hs:soOk v = false) (ha:aoOk v = false) {x:List Int} (hp:cl.Pt (Kb σ) v x) (hk:cl.knd x = 1) (hw:cl.wds x = []) :
 Calls Tryz.prog 86 #[.pointer (some ⟨z,0,none⟩),.int .u64 v] w (Get0 ⟨7,0,0,e0,e0,0,e0,0⟩ w):=by
 have HS:=Lib.hid (fun W=>words.SmallOf v v0 v1 W);rw [hs] at HS;have HA':=Lib.hid (fun W=>words.AtomOf v v0 v1 W);rw [ha] at HA';have hb0:Below w.heap.size w (w.alloc (.cells zC 38)):=belowA (Below.refl _ w) _;have hsz:(w.alloc (.cells zC 38)).heap.size = w.heap.size + 1:=World.size_alloc _ _;have HO:=Lib.hid (objQ2 h hY hb0 v0 v1 hp);rw [hk,hw] at HO;have HZ:=Lib.hid (heap_alloc_new w (.cells zC 38));have HB:=Lib.hid hb0;have HSZ:=Lib.hid hsz;have HQ0:=Lib.hid h;clear h hs ha hp hk hw hb0 hsz v0 v1 ;unfold Get0;go_enter Tryz.func86,Tryz.ntmps86;go_wp2_with fail;refine (HS.out _).mono ?_
 rintro e w1 ⟨rfl,rfl⟩;go_wp2_with fail;refine (HA'.out _).mono ?_;rintro e w1 ⟨rfl,rfl⟩;go_wp2_with fail;refine HO.out.mono ?_;rintro e w1 ⟨u,rfl,hr,hb⟩;have HR:=Lib.hid hr;obtain ⟨p,k,e,hk1,hk2⟩:=hr.shape;rw [e] at hr HR;subst e;have HZ1:=Lib.hid ((hb.block w.heap.size (by have:=HSZ.out;omega)).trans HZ.out);have HB1:=Lib.hid (HB.out.trans (hb.mono HB.out.size));have HFx:Hid (∀ W,Calls Tryz.prog 133 #[.int .i64 1,.slice p 0 k] W fun e w'=>e = .returned (.int .i64 0)∧W = w'):=Lib.hid (fun W=>by
  have h:=cl.fixed114 W p 0 k 1
  simpa [cl.fxd] using h)
 clear HR hr hb hk1 hk2 HO HZ;have hk0:k = 0∨0 < k:=by omega
 rcases hk0 with rfl | hk0
 all_goals
  rcases p with _ | p
  all_goals
   go_wp2_with fail;refine (HFx.out _).mono ?_;rintro e w2 ⟨rfl,rfl⟩;go_wp2_with fail;refine wp_loop_rounds 1 ?_;rw [rounds_succ];have HZ2:=HZ1;have HB2:=HB1;go_wp2_with (refine wpList_store_row rfl 38 (.tmp 4) (.tmp 102) rfl w.heap.size (C9f ⟨7,0,0,e0,e0,0,e0,0⟩ nilV) rfl rfl 38 zC HZ2.out i38 rfl (nine1 _ rfl) ?_)
   go_wp2_with fail;refine bodyPost_ret (v:=aggV ⟨7,0,0,e0,e0,0,e0,0⟩ nilV) (ret_row rfl _ rfl (cs:=encR (⟨7,0,0,e0,e0,0,e0,0⟩,nilV)) rfl (range_blk (setRow_heap _ _ _ _ _ _ HZ2.out))) rfl ⟨rfl,below_setRow HB2.out (Nat.le_refl _) _⟩
end
end Go.Proofs.YtpnlnbolhkcnjaaGreat.hp
