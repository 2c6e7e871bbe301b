/- HrV,HrW,HrX. No condition beyond theirs. -/
import Derived.Test.YtpnlnbolhkcnjaaGreatK35
set_option linter.unusedSimpArgs false
set_option linter.unusedVariables false
set_option maxHeartbeats 4000000
set_option maxRecDepth 100000
namespace Go.Proofs.YtpnlnbolhkcnjaaGreat.hp
open Go.RowKit mem words rec tm
section
variable {w:World} {B z a b:Nat} {c:Int} {σ:St} {S:Nat→Prop}
end
theorem pt_flags {K:cl.Bk} {v:Int} {x:List Int} (h:cl.Pt K v x):soOk v = false∧aoOk v = false:=by
 have hp:=h.1;simp only [pOk,decide_eq_true_eq] at hp
 constructor
 ·simp only [soOk,decide_eq_false_iff_not];omega
 ·simp only [aoOk,decide_eq_false_iff_not];omega
theorem need21 {n:Nat} (p:Option Addr) (w:World) (v:Value) (t:Tm (n + 1)) (hI:ItemsAt w w.heap.size n v t.items) (hr:rngT (n + 1) t) (hs:nodesT t ≤ 100000) :
 Calls Tryz.prog 21 #[.pointer p,aggV t.f v] w fun e w'=>e = .returned (.int .i64 (if validT t = true then needT (n + 1) t else 0))∧Below w.heap.size w w':=by
 obtain ⟨q,c,rfl,_,_⟩:=hI.shape;have hb0:Below w.heap.size w (w.alloc (.cells (C9f t.f (.slice q t.items.length c)) 38)):=belowA (Below.refl _ w) _;have hx:=heap_alloc_new w (.cells (C9f t.f (.slice q t.items.length c)) 38);have hsz:(w.alloc (.cells (C9f t.f (.slice q t.items.length c)) 38)).heap.size = w.heap.size + 1:=World.size_alloc _ _;generalize hw0:w.alloc (.cells (C9f t.f (.slice q t.items.length c)) 38) = w0 at *;have HV:=Lib.hid (ValidTm (ofAll n) w0 w.heap.size _ t hb0.size (hI.below hb0 (Nat.le_refl _)) (by omega))
 have HKp:Hid (∀ W,Below w0.heap.size w0 W→Box9 w.heap.size t.f.kind t.f.int t.f.gen t.f.name t.f.func t.f.arity (.slice q t.items.length c) t.f.bytes t.f.bits W∧Below w.heap.size w W):=Lib.hid (fun W hW=>⟨box9 ((hW.block _ (by omega)).trans hx),hb0.trans (hW.mono (by omega))⟩);have HNd:Hid (validT t = true→∀ W,Below w0.heap.size w0 W→Calls Tryz.prog 68 #[aggV t.f (.slice q t.items.length c)] W fun e w'=>e = .returned (.int .i64 (needT (n + 1) t))∧Below W.heap.size W w'):=Lib.hid (fun hv W hW=>by
  have hf:formedT t = true:=by
   unfold validT at hv
   rw [Bool.and_eq_true] at hv
   exact hv.1
  have hb:=hb0.trans (hW.mono (by omega))
  exact needAll n W w.heap.size _ t hb.size (hI.below hb (Nat.le_refl _)) hf hr hs)
 obtain ⟨⟨x0,x1,x2,x3,x4,x5,x6,x7,x8⟩,_⟩:=HKp.out w0 (Below.refl _ _);clear hI hr hs hb0 hx hsz;generalize t.items.length = len at *;generalize needT (n + 1) t = N at *;generalize t.f = f at *;obtain ⟨k,i,gg,nm,fn,ar,by_,bt⟩:=f;unfold aggV at *;dsimp only at *;unfold BPost at HV;cases hv:validT t with
 | false =>
  rw [hv] at HV;go_enter Tryz.func21,Tryz.ntmps21;go_upto_region 1 with (fail);clear hw0;go_wp2_with fail;refine HV.out.mono ?_;rintro e W2 ⟨rfl,hb⟩;have HB2:=Lib.hid (HKp.out W2 hb).2;clear hb x0 x1 x2 x3 x4 x5 x6 x7 x8;go_wp2_with fail;go_ret;exact ⟨rfl,HB2.out⟩
 | true =>
  rw [hv] at HV;have HNd:=Lib.hid (HNd.out hv);go_enter Tryz.func21,Tryz.ntmps21;go_upto_region 1 with (fail);clear hw0;go_wp2_with fail;refine HV.out.mono ?_;rintro e W2 ⟨rfl,hb⟩;clear x0 x1 x2 x3 x4 x5 x6 x7 x8;obtain ⟨⟨x0,x1,x2,x3,x4,x5,x6,x7,x8⟩,_⟩:=HKp.out W2 hb;have HC:=Lib.hid (HNd.out W2 hb);have HB:=Lib.hid hb;clear hb;go_wp2_with fail;refine HC.out.mono ?_;rintro e W3 ⟨rfl,hb3⟩;have HB3:=Lib.hid (HKp.out W3 (HB.out.trans (hb3.mono HB.out.size))).2;clear hb3 x0 x1 x2 x3 x4 x5 x6 x7 x8;go_wp2_with fail;go_ret;exact ⟨rfl,HB3.out⟩
theorem put18y {n:Nat} {w:World} {B z a b:Nat} {c:Int} {σ:St} {S:Nat→Prop} (h:HQ w B z a b c σ S) (hc1:-2000000 ≤ c) (hc2:c ≤ 2000000) (hY:σ.Y.length ≤ 100000) (v:Value) (t:Tm (n + 1)) (hI:ItemsIn w (fun g=>¬ S g∧g < w.heap.size) n v t.items) (hr:rngT (n + 1) t) (hs:nodesT t ≤ 100000) (hv:validT t = true) (hN:¬ c - σ.Y.length < needT (n + 1) t) (hcap:Cap σ (nodesT t) (needT (n + 1) t)) :
 Calls Tryz.prog 18 #[.pointer (some ⟨z,0,none⟩),aggV t.f v] w fun e w'=>e = .returned (.tuple #[.int .u64 (putO (n + 1) t σ).1,.int .i64 0])∧StepQ B z a b c S w (putO (n + 1) t σ).2 w':=by
 obtain ⟨q,cp,rfl,_,_⟩:=itemsIn_shape hI;have hb0:Below w.heap.size w (w.alloc (.cells (C9f t.f (.slice q t.items.length cp)) 38)):=belowA (Below.refl _ w) _;have hx:=heap_alloc_new w (.cells (C9f t.f (.slice q t.items.length cp)) 38);have hsz:(w.alloc (.cells (C9f t.f (.slice q t.items.length cp)) 38)).heap.size = w.heap.size + 1:=World.size_alloc _ _;have hIA:ItemsAt w w.heap.size n (.slice q t.items.length cp) t.items:=hI.toAt (fun g hg=>hg.2);generalize hw0:w.alloc (.cells (C9f t.f (.slice q t.items.length cp)) 38) = w0 at *
 have HM:Hid (Calls Tryz.prog 66 #[.pointer (some ⟨z,0,none⟩)] w0 fun e w'=>e = .returned (.bool true)∧w0 = w'):=Lib.hid (by
  obtain ⟨vY,vF,m,p,cc,m1,m2,h'⟩:=h.below hb0
  exact made66 h'.ha)
 have HV:=Lib.hid (ValidTm (ofAll n) w0 w.heap.size _ t hb0.size (hIA.below hb0 (Nat.le_refl _)) (by omega));have HKp:Hid (∀ W,Below w0.heap.size w0 W→Box9 w.heap.size t.f.kind t.f.int t.f.gen t.f.name t.f.func t.f.arity (.slice q t.items.length cp) t.f.bytes t.f.bits W∧Below w.heap.size w W):=Lib.hid (fun W hW=>⟨box9 ((hW.block _ (by omega)).trans hx),hb0.trans (hW.mono (by omega))⟩);obtain ⟨⟨x0,x1,x2,x3,x4,x5,x6,x7,x8⟩,_⟩:=HKp.out w0 (Below.refl _ _);have hf:formedT t = true:=by
  unfold validT at hv;rw [Bool.and_eq_true] at hv;exact hv.1
 have HR:Hid (∀ W,Below w0.heap.size w0 W→Calls Tryz.prog 39 #[.pointer (some ⟨z,0,none⟩)] W fun e w'=>e = .returned (.int .i64 (c - σ.Y.length))∧Below W.heap.size W w'):=Lib.hid (fun W hW=>by
  obtain ⟨vY,vF,m,p,cc,m1,m2,h'⟩:=h.below (hb0.trans (hW.mono (by omega)))
  exact room39 h'.ha (by omega) hc1 hc2)
 have HNd:Hid (∀ W,Below w0.heap.size w0 W→Calls Tryz.prog 68 #[aggV t.f (.slice q t.items.length cp)] W fun e w'=>e = .returned (.int .i64 (needT (n + 1) t))∧Below W.heap.size W w'):=Lib.hid (fun W hW=>by
  have hb:=hb0.trans (hW.mono (by omega))
  exact needAll n W w.heap.size _ t hb.size (hIA.below hb (Nat.le_refl _)) hf hr hs)
 have q1:decide (c - (σ.Y.length:Int) < needT (n + 1) t) = false:=decide_eq_false hN;have HP:Hid (∀ W,Below w0.heap.size w0 W→Calls Tryz.prog 69 #[.pointer (some ⟨z,0,none⟩),aggV t.f (.slice q t.items.length cp)] W (RQ B z a b c S (putO (n + 1) t σ) w)):=Lib.hid (fun W hW=>by
  have hb:=hb0.trans (hW.mono (by omega))
  exact (putAll n W B z a b c σ S _ t (h.below hb) (hI.mono (fun g hg=>hb.block g hg.2) (fun g hg=>⟨hg.1,Nat.lt_of_lt_of_le hg.2 hb.size⟩)) hf hr hcap).mono fun e w' hh=>hh.of_below hb)
 clear h hI hIA hr hs hb0 hx hsz hc1 hc2 hf hN hcap;generalize t.items.length = len at *;generalize needT (n + 1) t = N at *;generalize c - (σ.Y.length:Int) = rm at *;unfold RQ at HP;generalize putO (n + 1) t σ = R at *;generalize t.f = f at *;obtain ⟨k,i,gg,nm,fn,ar,by_,bt⟩:=f;unfold aggV at *;dsimp only at *;unfold BPost at HV;rw [hv] at HV;clear hv;go_enter Tryz.func18,Tryz.ntmps18;go_upto_region 1 with (fail);clear hw0;go_wp2_with fail;refine HM.out.mono ?_;rintro e W0 ⟨rfl,rfl⟩;go_wp2_with fail;refine HV.out.mono ?_;rintro e W2 ⟨rfl,hbd⟩;clear x0 x1 x2 x3 x4 x5 x6 x7 x8;go_wp2_with fail
 replace hbd:=belowD hbd;obtain ⟨⟨x0,x1,x2,x3,x4,x5,x6,x7,x8⟩,_⟩:=HKp.out W2.drew hbd
 go_region_held3 (fun w'=>w'.cell? ⟨w.heap.size,0,none⟩ = some (.int .i64 k)∧w'.cell? ⟨w.heap.size,1,none⟩ = some (.int .i64 i)∧w'.cell? ⟨w.heap.size,2,none⟩ = some (.int .i64 gg)∧w'.cell? ⟨w.heap.size,3,none⟩ = some (.string nm)∧w'.cell? ⟨w.heap.size,4,none⟩ = some (.string fn)∧w'.cell? ⟨w.heap.size,5,none⟩ = some (.int .i64 ar)∧w'.cell? ⟨w.heap.size,6,none⟩ = some (.slice q len cp)∧w'.cell? ⟨w.heap.size,7,none⟩ = some (.string by_)∧w'.cell? ⟨w.heap.size,8,none⟩ = some (.int .i64 bt)) (go_keep)
  (first
    | (go_at_call 39;refine (HR.out _ hbd).mono ?_;rintro e W3 ⟨rfl,hb⟩;replace hbd:=hbd.trans (hb.mono hbd.size);clear hb x0 x1 x2 x3 x4 x5 x6 x7 x8;obtain ⟨⟨x0,x1,x2,x3,x4,x5,x6,x7,x8⟩,_⟩:=HKp.out W3 hbd)
    | (go_at_call 68;refine (HNd.out _ hbd).mono ?_;rintro e W4 ⟨rfl,hb⟩;replace hbd:=hbd.trans (hb.mono hbd.size);clear hb x0 x1 x2 x3 x4 x5 x6 x7 x8;obtain ⟨⟨x0,x1,x2,x3,x4,x5,x6,x7,x8⟩,_⟩:=HKp.out W4 hbd))
 all_goals
  have HC:=Lib.hid (HP.out _ hbd);go_wp2_with fail;refine HC.out.mono ?_;rintro e W5 ⟨rfl,hS⟩;have HS:=Lib.hid hS;clear hS x0 x1 x2 x3 x4 x5 x6 x7 x8;go_wp2_with fail;go_ret2
  exact ⟨rfl,HS.out⟩
end Go.Proofs.YtpnlnbolhkcnjaaGreat.hp
