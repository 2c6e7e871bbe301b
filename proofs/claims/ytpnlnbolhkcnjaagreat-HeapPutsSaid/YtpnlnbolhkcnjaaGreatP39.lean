/- HrU,HrV. No condition beyond theirs. -/
import Derived.Test.YtpnlnbolhkcnjaaGreatP38
set_option linter.unusedSimpArgs false
set_option linter.unusedVariables false
set_option maxHeartbeats 4000000
set_option maxRecDepth 100000
namespace Go.Proofs.YtpnlnbolhkcnjaaGreat.hp
open Go.RowKit mem words rec tm
structure Chain (σ:St) (v:Int) (ws:List Int) (vs:Nat→Int) (c:Nat):Prop where
 v0:vs 0 = v
 len:ws.length = c + 1
 cell:∀ i,i < c→∃ x,ws[i]? = some x∧cl.Pt (Kb σ) (vs i) [x,vs (i + 1)]∧x % 4 ≠ 0
 last:ws[c]? = some (vs c)
 no:¬ ∃ y,cl.Pt (Kb σ) (vs c) y∧cl.knd y = 0
 rng:∀ i,i ≤ c→0 ≤ vs i∧vs i ≤ 18446744073709551615
theorem chain_of {α:Type} {σ:St} {d:Int→α→Prop}:∀ (l:List α) (v:Int),RdL σ d v l→∃ ws vs,Chain σ v ws vs (l.length - 1)∧∀ j,(h:j < l.length)→∃ x,ws[j]? = some x∧Wok x∧d x l[j]:=by
 intro l
 induction l with
 | nil=>intro v h;exact h.elim
 | cons t l ih =>
  intro v h;cases l with
  | nil =>
   obtain ⟨hw,hd,hn⟩:=h;exact ⟨[v],fun _=>v,⟨rfl,rfl,fun i hi=>absurd hi (by simp),rfl,hn,fun i _=>⟨hw.1,hw.2.1⟩⟩,fun j hj=>by
    have:j = 0:=by simpa using hj
    subst this
    exact ⟨v,rfl,hw,hd⟩⟩
  | cons u l =>
   obtain ⟨hw,x,tl,hp,hk,hx,hd,hr⟩:=h;obtain ⟨ws,vs,hC,hE⟩:=ih tl hr;simp only [List.length_cons,Nat.add_sub_cancel] at hC ⊢
   refine ⟨x :: ws,fun i=>if i = 0 then v else vs (i - 1),⟨rfl,by simp [hC.len],fun i hi=>?_,?_,?_,fun i hi=>?_⟩,fun j hj=>?_⟩
   ·cases i with
    | zero =>
     refine ⟨x,rfl,?_,hx.2.2⟩;simp only [if_true,Nat.zero_add,Nat.one_ne_zero,if_false,Nat.sub_self];rw [hC.v0];exact hp
    | succ i =>
     obtain ⟨y,hy,hpy,hyo⟩:=hC.cell i (by omega);refine ⟨y,by simpa using hy,?_,hyo⟩;simpa using hpy
   ·simpa using hC.last
   ·simpa using hC.no
   ·cases i with
    | zero=>exact ⟨hw.1,hw.2.1⟩
    | succ i=>simpa using hC.rng i (by omega)
   ·cases j with
    | zero=>exact ⟨x,rfl,hx,hd⟩
    | succ j =>
     obtain ⟨y,hy,hyo,hyd⟩:=hE j (by simpa using hj);exact ⟨y,by simpa using hy,hyo,hyd⟩
section
variable {w:World} {B z a b:Nat} {c:Int} {σ:St} {S:Nat→Prop}
def ObC (w0:World) (ws:List Int) (vs:Nat→Int) (n i:Nat) (w:World) (e:Ending) (w':World):Prop :=
 ∃ k u ok,e = .returned (.tuple #[.int .i64 k,u,.bool ok])∧Below w.heap.size w w'∧(i < n→k = 0∧ok = true∧∃ x,ws[i]? = some x∧RecAt encW 1 w' w0.heap.size u [x,vs (i + 1)])∧(i = n→¬ (ok = true∧k = 0))∧∃ p m q,u = .slice p m q
theorem objC (h:HQ w B z a b c σ S) (hY:σ.Y.length ≤ 100000) {v:Int} {ws:List Int} {vs:Nat→Int} {n:Nat} (hC:Chain σ v ws vs n) {W:World} (hb:Below w.heap.size w W) (i:Nat) (hi:i ≤ n) :
 Calls Tryz.prog 75 #[.pointer (some ⟨z,0,none⟩),.int .u64 (vs i)] W (ObC w ws vs n i W):=by
 obtain ⟨r0,r1⟩:=hC.rng i hi
 by_cases hp:∃ y,cl.Pt (Kb σ) (vs i) y
 ·obtain ⟨y,hp⟩:=hp;refine (objQ2 h hY hb r0 r1 hp).mono ?_;rintro e w' ⟨u,rfl,hr,hb'⟩;obtain ⟨p,k,eu,_,_⟩:=id hr
  refine ⟨_,u,true,rfl,hb',fun hlt=>?_,fun e=>?_,p,_,k,eu⟩
  ·obtain ⟨x,hx,hpx,hxo⟩:=hC.cell i hlt;obtain rfl:=cl.Pt.uniq (heapQ h hY).pos hp hpx;have h4:([x,vs (i + 1)]:List Int).headD 0 = x:=rfl;have hk:cl.knd [x,vs (i + 1)] = 0:=by
    unfold cl.knd;rw [h4,if_neg hxo]
   have hw:cl.wds [x,vs (i + 1)] = [x,vs (i + 1)]:=by
    unfold cl.wds;rw [h4,if_neg hxo]
   rw [hw] at hr;exact ⟨hk,rfl,x,hx,hr⟩
  ·subst e;exact fun h0=>hC.no ⟨y,hp,h0.2⟩
 ·refine ((cl.object96 W w.heap.size z _ _ (heapQ2 h hY hb) (vs i) r0 r1)).mono ?_
  rintro e w' ⟨n',rfl,⟨y,u,hy,_⟩ | ⟨_,rfl⟩⟩
  ·exact absurd ⟨y,hy⟩ hp
  ·refine ⟨0,_,false,rfl,⟨rfl,rfl,rfl,Nat.le_refl _,fun _ _=>rfl⟩,fun hlt=>?_,fun _ h0=>by simp at h0,none,0,0,rfl⟩;obtain ⟨x,hx,hpx,_⟩:=hC.cell i hlt;exact absurd ⟨_,hpx⟩ hp
end
section
variable {w:World} {B z a b:Nat} {c:Int} {σ:St} {S:Nat→Prop}
def sliceLen:Value→Nat
 | .slice _ n _=>n
 | _=>0
theorem get_list (h:HQ w B z a b c σ S) (hY:σ.Y.length ≤ 100000) {v:Int} {ws:List Int} {vs:Nat→Int} {n:Nat} (hC:Chain σ v ws vs n) (hn:0 < n) (hn2:n ≤ 100000) (v0:0 ≤ v) (v1:v ≤ 18446744073709551615) (hs:soOk v = false) (ha:aoOk v = false) {fs:Nat→TF} {Q:Nat→World→(Nat→Prop)→Value→Prop} (hE:GetEl w z ws fs Q) :
 Calls Tryz.prog 86 #[.pointer (some ⟨z,0,none⟩),.int .u64 v] w (GetR (z:=z) (ws:=ws) (fs:=fs) (Q:=Q) ⟨9,0,0,e0,e0,0,e0,0⟩ (n + 1) w):=by
 have HS:=Lib.hid (fun W=>words.SmallOf v v0 v1 W);rw [hs] at HS;have HA':=Lib.hid (fun W=>words.AtomOf v v0 v1 W);rw [ha] at HA';have hb0:Below w.heap.size w (w.alloc (.cells zC 38)):=belowA (Below.refl _ w) _;have hsz:(w.alloc (.cells zC 38)).heap.size = w.heap.size + 1:=World.size_alloc _ _;have HO:=Lib.hid (objC h hY hC hb0 0 (Nat.zero_le _));rw [hC.v0] at HO;have HOb:=Lib.hid (fun W (hb:Below w.heap.size w W) i hi=>objC h hY hC hb i hi);have HZ:=Lib.hid (heap_alloc_new w (.cells zC 38));have HB:=Lib.hid hb0;have HSZ:=Lib.hid hsz;have HE:=Lib.hid hE;have HCh:=Lib.hid hC
 have HM:=Lib.hid (⟨hn,hn2⟩:0 < n∧n ≤ 100000);have hv0:=hC.v0;clear h hs ha hb0 hsz v0 v1 hE hC hn hn2;unfold GetR;go_enter Tryz.func86,Tryz.ntmps86;go_wp2_with fail;refine (HS.out _).mono ?_;rintro e w1 ⟨rfl,rfl⟩;go_wp2_with fail;refine (HA'.out _).mono ?_;rintro e w1 ⟨rfl,rfl⟩;go_wp2_with fail;refine HO.out.mono ?_;rintro e w1 ⟨k0,u0,ok0,rfl,hb,hlt,_,p0,m0,q0,rfl⟩;obtain ⟨rfl,rfl,x0,hx0,hr0⟩:=hlt HM.out.1;have HZ1:=Lib.hid ((hb.block w.heap.size (by have:=HSZ.out;omega)).trans HZ.out);have HB1:=Lib.hid (HB.out.trans (hb.mono HB.out.size))
 have HG:Hid (w.heap.size < w1.heap.size):=Lib.hid (by have:=HSZ.out;have:=hb.size;omega);have HI0:Hid (0 < n→(0:Int) = 0∧true = true∧∃ x,ws[0]? = some x∧RecAt encW 1 w1 w.heap.size (.slice p0 m0 q0) [x,vs (0 + 1)]):=Lib.hid (fun _=>⟨rfl,rfl,x0,hx0,hr0⟩);have HJ0:Hid (0 = n→¬ (true = true∧(0:Int) = 0)):=Lib.hid (fun e=>by have:=HM.out.1;omega);clear hb hlt hr0 hx0 HO HZ;go_wp2_with fail
 go_loopw [1,9,10,11,12] (fun s1 s9 s10 s11 s12 wr=>∃ (i:Nat) (rows:List (TF × Value)) (k:Int) (p:Option Addr) (m q:Nat) (ok:Bool),s1 = .int .u64 (vs i)∧s9 = .int .i64 k∧s10 = .slice p m q∧s11 = .bool ok∧i ≤ n∧Hid (RowsI w1.heap.size fs Q wr s12 i rows)∧Hid (Below w1.heap.size w1 wr) ∧
  Hid (i < n→k = 0∧ok = true∧∃ x,ws[i]? = some x∧RecAt encW 1 wr w.heap.size (.slice p m q) [x,vs (i + 1)])∧Hid (i = n→¬ (ok = true∧k = 0))∧Hid (s12 = .slice none 0 0∨True)∧Hid (rows.length = i)) (fun _ _ _ _ s12 _=>n + 1 - sliceLen s12)
 case atStart=>exact ⟨0,[],0,p0,m0,q0,true,by rw [hv0],rfl,rfl,rfl,Nat.zero_le _,Lib.hid (RowsI.start _ _ _ _),Lib.hid (Below.refl _ _),Lib.hid (fun h=>⟨rfl,rfl,(HI0.out h).2.2⟩),Lib.hid (fun e h=>(HJ0.out e) (by simp)),Lib.hid (.inr trivial),Lib.hid rfl⟩
 case round =>
  obtain ⟨i,rows,k,p,m,q,ok,rfl,rfl,rfl,rfl,hi,HRw,HBr,HI,HJ,_,HLr⟩:=hrel;obtain ⟨p12,c12,e12,_,_⟩:=HRw.out.own.shape;rw [HLr.out] at e12;subst e12
  by_cases hlt:i < n
  ·obtain ⟨hk,hok,x,hx,hr⟩:=HI.out hlt;subst hk;subst hok;obtain ⟨p2,q2,e2,_,_⟩:=hr.shape;rw [e2] at hr;obtain ⟨g,o,rfl,_,hg,hc⟩:=hr.nth (by simp);have e3:m = 2:=by
    simp only [Value.slice.injEq] at e2;exact e2.2.1
   have e4:p = some ⟨g,o,none⟩:=by
    simp only [Value.slice.injEq] at e2;exact e2.1
   subst e3;subst e4;have r0:wr.cell? ⟨g,o,none⟩ = some (.int .u64 x):=by simpa using hc 0 x rfl 0 _ rfl
   have r1:wr.cell? ⟨g,o + 1,none⟩ = some (.int .u64 (vs (i + 1))):=by simpa using hc 1 _ rfl 0 _ rfl
   have hbw:Below w.heap.size w1 wr:=HBr.out.mono (Nat.le_of_lt HG.out);have HGt:=Lib.hid (HE.out.get i x hx wr (HB1.out.trans hbw));have HR1:Hid (∀ W,Below w1.heap.size wr W→W.cell? ⟨g,o + 1,none⟩ = some (.int .u64 (vs (i + 1)))):=Lib.hid (fun W hW=>(Below.cell hW (p:=⟨g,o + 1,none⟩) (show g < _ by have:=HG.out;omega)).trans r1);clear hc hr hx hbw hg e2;go_wp2_with fail;refine HGt.out.mono ?_;rintro e W2 ⟨u2,rfl,hq,hb⟩;obtain ⟨up,um,uc,rfl⟩:=HE.out.one i W2 _ u2 hq;have hs1:=hb.size;have hs0:=HBr.out.size
   have hba:Below W2.heap.size W2 (W2.alloc (rowO (fs i) (.slice up um uc))):=belowA (Below.refl _ W2) _;have RO:=Lib.hid (HRw.out.own.below (hb.trans (hba.mono hb.size)));have HBs:Hid (w1.heap.size ≤ (W2.alloc (rowO (fs i) (.slice up um uc))).heap.size):=Lib.hid (by rw [World.size_alloc];omega);have HEn:=Lib.hid (HE.out.encOK hq)
   have RA:Hid (RecAt encR 9 (W2.alloc (rowO (fs i) (.slice up um uc))) (W2.heap.size + 1) (.slice (some ⟨W2.heap.size,0,none⟩) 1 1) [(fs i,Value.slice up um uc)]):=Lib.hid (RecAt.fresh (l:=[(fs i,Value.slice up um uc)]) HEn.out (by decide) (heap_alloc_new W2 _) (Nat.le_refl 1) (by unfold maxLen;omega));have HLn:Hid (rows.length + [(fs i,Value.slice up um uc)].length ≤ 1000000000):=Lib.hid (by rw [HRw.out.len];have:=HM.out;simp;omega);have HNx:=Lib.hid (fun v' w' hA=>RowsI.next HE.out HRw.out hb hs0 hq (v':=v') (w':=w') hA);clear hq hb hs1 hs0 hba;dsimp only [aggV]
   go_wp2_with (refine wpList_append_rec (enc:=encR) elT rfl (.tmp 81) (.tmp 87) rfl rfl (base:=w1.heap.size) (l:=rows) RO.out HBs.out (B:=W2.heap.size + 1) (xs:=[(fs i,.slice up um uc)]) rfl RA.out HEn.out HLn.out ?_)
   intro v2 w3 hA;obtain ⟨h1,h2⟩:=HNx.out _ _ hA;obtain ⟨pv,cv,ev,_,_⟩:=h1.own.shape;generalize hnv:(rows ++ [(fs i,Value.slice up um uc)]).length = nv at ev;have HNv:Hid (nv = i + 1):=Lib.hid (by rw [← hnv];simp [HLr.out]);clear hnv;subst ev;have H1:=Lib.hid h1;have H2:=Lib.hid (HBr.out.trans h2);have H2b:=Lib.hid h2;clear hA h1 h2;have r2:=HR1.out w3 (H2b.out);have HOn:=Lib.hid (HOb.out w3 (HB1.out.trans (H2.out.mono (Nat.le_of_lt HG.out))) (i + 1) (by omega));clear r0 r1;go_wp2_with fail;refine HOn.out.mono ?_;rintro e W4 ⟨k4,u4,ok4,rfl,hb4,hlt4,hj4,p4,m4,q4,rfl⟩;have H4:=Lib.hid hb4
   have HI4:=Lib.hid hlt4;have HJ4:=Lib.hid hj4;clear hb4 hlt4 hj4 r2;go_wp2_with fail;go_roundw
   case rel=>exact ⟨i + 1,_,k4,p4,m4,q4,ok4,rfl,rfl,rfl,rfl,by omega,Lib.hid (H1.out.below HE.out H4.out),Lib.hid (H2.out.trans (H4.out.mono H2.out.size)),HI4,HJ4,Lib.hid (.inr trivial),Lib.hid (by simp [HLr.out])⟩
   case measure =>
    have:=HNv.out;simp [sliceLen];omega
  ·obtain rfl:i = n:=by omega
   have HGt:=Lib.hid (HE.out.get i (vs i) HCh.out.last wr (HB1.out.trans (HBr.out.mono (Nat.le_of_lt HG.out))));have hnk:=HJ.out rfl;clear HI HJ
   cases ok
   ·clear hnk;go_wp2_with fail;refine HGt.out.mono ?_;rintro e W2 ⟨u2,rfl,hq,hb⟩;obtain ⟨up,um,uc,rfl⟩:=HE.out.one i W2 _ u2 hq;have hs1:=hb.size;have hs0:=HBr.out.size;have hba:Below W2.heap.size W2 (W2.alloc (rowO (fs i) (.slice up um uc))):=belowA (Below.refl _ W2) _;have RO:=Lib.hid (HRw.out.own.below (hb.trans (hba.mono hb.size)));have HBs:Hid (w1.heap.size ≤ (W2.alloc (rowO (fs i) (.slice up um uc))).heap.size):=Lib.hid (by rw [World.size_alloc];omega);have HEn:=Lib.hid (HE.out.encOK hq)
    have RA:Hid (RecAt encR 9 (W2.alloc (rowO (fs i) (.slice up um uc))) (W2.heap.size + 1) (.slice (some ⟨W2.heap.size,0,none⟩) 1 1) [(fs i,Value.slice up um uc)]):=Lib.hid (RecAt.fresh (l:=[(fs i,Value.slice up um uc)]) HEn.out (by decide) (heap_alloc_new W2 _) (Nat.le_refl 1) (by unfold maxLen;omega));have HLn:Hid (rows.length + [(fs i,Value.slice up um uc)].length ≤ 1000000000):=Lib.hid (by rw [HRw.out.len];have:=HM.out;simp;omega);have HNx:=Lib.hid (fun v' w' hA=>RowsI.next HE.out HRw.out hb hs0 hq (v':=v') (w':=w') hA);clear hq hb hs1 hs0 hba;dsimp only [aggV]
    go_wp2_with (refine wpList_append_rec (enc:=encR) elT rfl (.tmp 92) (.tmp 96) rfl rfl (base:=w1.heap.size) (l:=rows) RO.out HBs.out (B:=W2.heap.size + 1) (xs:=[(fs i,.slice up um uc)]) rfl RA.out HEn.out HLn.out ?_)
    intro v2 w3 hA;obtain ⟨h1,h2⟩:=HNx.out _ _ hA;obtain ⟨pv,cv,ev,_,_⟩:=h1.own.shape;generalize hnv:(rows ++ [(fs i,Value.slice up um uc)]).length = nv at ev;have HNv:Hid (nv = i + 1):=Lib.hid (by rw [← hnv];simp [HLr.out]);clear hnv;subst ev;have H1:=Lib.hid h1;have H2:=Lib.hid (HBr.out.trans h2);have H2b:=Lib.hid h2;clear hA h1 h2;have HZ2:=Lib.hid ((H2.out.block w.heap.size HG.out).trans HZ1.out);have HB2:=Lib.hid (HB1.out.trans (H2.out.mono (Nat.le_of_lt HG.out)))
    go_wp2_with (refine wpList_store_row rfl 38 (.tmp 4) (.tmp 98) rfl w.heap.size (C9f ⟨9,0,0,e0,e0,0,e0,0⟩ (.slice pv nv cv)) rfl rfl 38 zC HZ2.out i38 rfl (nine1 _ rfl) ?_)
    go_wp2_with fail;refine bodyPost_ret (v:=aggV ⟨9,0,0,e0,e0,0,e0,0⟩ (.slice pv nv cv)) (ret_row rfl _ rfl (cs:=encR (⟨9,0,0,e0,e0,0,e0,0⟩,.slice pv nv cv)) rfl (range_blk (setRow_heap _ _ _ _ _ _ HZ2.out))) rfl ⟨_,_,w1.heap.size,rfl,Nat.le_of_lt HG.out,H1.out.set HE.out HG.out _,below_setRow HB2.out (Nat.le_refl _) _⟩
   ·have hk:(k == 0) = false:=by simp at hnk;simp [hnk]
    clear hnk;go_wp2_with fail;refine HGt.out.mono ?_;rintro e W2 ⟨u2,rfl,hq,hb⟩;obtain ⟨up,um,uc,rfl⟩:=HE.out.one i W2 _ u2 hq;have hs1:=hb.size;have hs0:=HBr.out.size;have hba:Below W2.heap.size W2 (W2.alloc (rowO (fs i) (.slice up um uc))):=belowA (Below.refl _ W2) _;have RO:=Lib.hid (HRw.out.own.below (hb.trans (hba.mono hb.size)));have HBs:Hid (w1.heap.size ≤ (W2.alloc (rowO (fs i) (.slice up um uc))).heap.size):=Lib.hid (by rw [World.size_alloc];omega);have HEn:=Lib.hid (HE.out.encOK hq)
    have RA:Hid (RecAt encR 9 (W2.alloc (rowO (fs i) (.slice up um uc))) (W2.heap.size + 1) (.slice (some ⟨W2.heap.size,0,none⟩) 1 1) [(fs i,Value.slice up um uc)]):=Lib.hid (RecAt.fresh (l:=[(fs i,Value.slice up um uc)]) HEn.out (by decide) (heap_alloc_new W2 _) (Nat.le_refl 1) (by unfold maxLen;omega));have HLn:Hid (rows.length + [(fs i,Value.slice up um uc)].length ≤ 1000000000):=Lib.hid (by rw [HRw.out.len];have:=HM.out;simp;omega);have HNx:=Lib.hid (fun v' w' hA=>RowsI.next HE.out HRw.out hb hs0 hq (v':=v') (w':=w') hA);clear hq hb hs1 hs0 hba;dsimp only [aggV]
    go_wp2_with (refine wpList_append_rec (enc:=encR) elT rfl (.tmp 92) (.tmp 96) rfl rfl (base:=w1.heap.size) (l:=rows) RO.out HBs.out (B:=W2.heap.size + 1) (xs:=[(fs i,.slice up um uc)]) rfl RA.out HEn.out HLn.out ?_)
    intro v2 w3 hA;obtain ⟨h1,h2⟩:=HNx.out _ _ hA;obtain ⟨pv,cv,ev,_,_⟩:=h1.own.shape;generalize hnv:(rows ++ [(fs i,Value.slice up um uc)]).length = nv at ev;have HNv:Hid (nv = i + 1):=Lib.hid (by rw [← hnv];simp [HLr.out]);clear hnv;subst ev;have H1:=Lib.hid h1;have H2:=Lib.hid (HBr.out.trans h2);have H2b:=Lib.hid h2;clear hA h1 h2;have HZ2:=Lib.hid ((H2.out.block w.heap.size HG.out).trans HZ1.out);have HB2:=Lib.hid (HB1.out.trans (H2.out.mono (Nat.le_of_lt HG.out)))
    go_wp2_with (refine wpList_store_row rfl 38 (.tmp 4) (.tmp 98) rfl w.heap.size (C9f ⟨9,0,0,e0,e0,0,e0,0⟩ (.slice pv nv cv)) rfl rfl 38 zC HZ2.out i38 rfl (nine1 _ rfl) ?_)
    go_wp2_with fail;refine bodyPost_ret (v:=aggV ⟨9,0,0,e0,e0,0,e0,0⟩ (.slice pv nv cv)) (ret_row rfl _ rfl (cs:=encR (⟨9,0,0,e0,e0,0,e0,0⟩,.slice pv nv cv)) rfl (range_blk (setRow_heap _ _ _ _ _ _ HZ2.out))) rfl ⟨_,_,w1.heap.size,rfl,Nat.le_of_lt HG.out,H1.out.set HE.out HG.out _,below_setRow HB2.out (Nat.le_refl _) _⟩
end
end Go.Proofs.YtpnlnbolhkcnjaaGreat.hp
