/- HtE,HtF. No condition beyond theirs. -/
import Derived.Test.YtpnlnbolhkcnjaaGreatK46
set_option linter.unusedSimpArgs false
set_option linter.unusedVariables false
set_option maxHeartbeats 4000000
set_option maxRecDepth 100000
namespace Go.Proofs.YtpnlnbolhkcnjaaGreat.hp
open Go.RowKit mem words rec tm
theorem num_small {n:Int} (h0:0 ≤ n) (h1:n ≤ 1000000):NumIs (smallW n) n:=by
 have hs:smallOk n = true:=by simp [smallOk];omega
 have o:=smallW_ok hs;exact ⟨o.1,o.2.1,(so_small hs).2⟩
section
variable {w:World} {B z a b:Nat} {c:Int} {σ:St} {S:Nat→Prop}
theorem cell_lt {w:World} {g o:Nat} {v:Value} (h:w.cell? ⟨g,o,none⟩ = some v):g < w.heap.size:=by
 unfold World.cell? at h;cases e:w.heap[g]? with
 | none =>
  rw [e] at h;simp at h
 | some q=>exact (Array.getElem?_eq_some_iff.1 e).1
theorem not_sfoot {E:Ents} {gv tot:Int} {m1 m2:Nat} (h:Sto w b E gv tot m1 m2) {g o:Nat} {x:Int} (hc:w.cell? ⟨g,o,none⟩ = some (.int .u64 x)):¬ sfoot b m1 m2 g:=by
 rintro (rfl | rfl | rfl)
 ·rw [cell_of_blk h.blk] at hc;rcases o with _ | _ | _ | _ | o <;> simp at hc
 ·obtain ⟨es,ck,hh,_⟩:=h.ids;unfold World.cell? at hc;rw [hh] at hc;simp at hc
 ·obtain ⟨es,ck,hh,_⟩:=h.ent;unfold World.cell? at hc;rw [hh] at hc;simp at hc
theorem keepQ (h:HQ w B z a b c σ S) {i:Nat} {id:Int} {s:ByteArray} {n:Int} (he:σ.E[i]? = some (id,s,n)) (h0:0 ≤ n) (h1:n ≤ 1000000000) :
 Calls Tryz.prog 76 #[.pointer (some ⟨b,0,none⟩),.int .i64 id] w fun e w'=>e = .returned (.int .i64 0)∧StepQ B z a b c S w { σ with E:=upE σ.E i 1 } w'∧∀ g o x,w.cell? ⟨g,o,none⟩ = some (.int .u64 x)→w'.cell? ⟨g,o,none⟩ = some (.int .u64 x):=by
 obtain ⟨vY,vF,m,p,cc,m1,m2,h⟩:=h;refine (keep76 h.sto h.we he h0 h1).mono ?_;rintro e w' ⟨rfl,hS,hW,hT⟩;refine ⟨rfl,h.store hS hW hT,fun g o x hc=>?_⟩;exact (hT.cell (p:=⟨g,o,none⟩) (cell_lt hc) (not_sfoot h.sto hc)).trans hc
theorem cell7Q (h:HQ w B z a b c σ S):w.cell? ⟨z,7,none⟩ = some (.pointer (some ⟨b,0,none⟩)):=by
 obtain ⟨vY,vF,m,p,cc,m1,m2,h⟩:=h;exact (cell_of_blk h.ha.blk).trans rfl
theorem part24a (h:HQ w B z a b c σ S) (hc1:-2000000 ≤ c) (hc2:c ≤ 2000000) (hY:σ.Y.length ≤ 100000) {v:Int} {x:List Int} (hv:Wok v) (hp:cl.Pt (Kb σ) v x) (hk:cl.knd x = 8) {id i1 N:Int} (hw:cl.wds x = [smallW id,smallW i1,smallW N])
 (d0:1 ≤ id) (d1:id ≤ 500000) (e0:0 ≤ i1) (e1:i1 ≤ 16384) (g0:0 ≤ N) (g1:N ≤ 16384) {f n:Int} (f0:0 ≤ f) (fn:f + n ≤ N) (n0:512 < n) {i:Nat} {s:ByteArray} {cnt:Int} (he:σ.E[i]? = some (id,s,cnt)) (c0:0 ≤ cnt) (c1:cnt ≤ 1000000000) (hR:¬ c - σ.Y.length < 4) :
 Calls Tryz.prog 24 #[.pointer (some ⟨z,0,none⟩),.int .u64 v,.int .i64 f,.int .i64 n] w fun e w'=>e = .returned (.tuple #[.int .u64 (boxO 8 [smallW id,smallW (i1 + f),smallW n] { σ with E:=upE σ.E i 1 }).1,.int .i64 0]) ∧
  StepQ B z a b c S w (boxO 8 [smallW id,smallW (i1 + f),smallW n] { σ with E:=upE σ.E i 1 }).2 w':=by
 have HM:=Lib.hid (fun W (hb:Below w.heap.size w W)=>madeQ (h.below hb));have HK:=Lib.hid (fun W (hb:Below w.heap.size w W)=>kind46Q (h.below hb) hY hv hp (.inl ⟨hk,rfl⟩));have HL:=Lib.hid (fun W (hb:Below w.heap.size w W)=>len74 (h.below hb) hY hv hp hk hw (num_small g0 (by omega)));have HR:=Lib.hid (fun W (hb:Below w.heap.size w W)=>roomQ (h.below hb) (by omega) hc1 hc2);have HN:Hid (∀ W,Calls Tryz.prog 71 #[.int .i64 n] W fun e w'=>e = .returned (.int .i64 4)∧W = w'):=Lib.hid (fun W=>by
  have:=bitWords71 W n (by omega) (by omega)
  rw [if_pos n0] at this
  exact this)
 have HO:=Lib.hid (fun W (hb:Below w.heap.size w W)=>objQ (h.below hb) hY hv.1 hv.2.1 hp);unfold ObP at HO;rw [hk,hw] at HO;have H77:=Lib.hid (fun W=>num77i _ _ (num_small (n:=id) (by omega) (by omega)) W);have H77b:=Lib.hid (fun W=>num77i _ _ (num_small (n:=i1) (by omega) (by omega)) W);obtain ⟨y,hy⟩:∃ y,i1 + f = y:=⟨_,rfl⟩;have H79:=Lib.hid (fun W=>small79 y (by omega) (by omega) W);have H79b:=Lib.hid (fun W=>small79 n (by omega) (by omega) W);have HKp:=Lib.hid (fun W (hb:Below w.heap.size w W)=>keepQ (h.below hb) he c0 c1)
 have HC:=Lib.hid (fun W (hb:Below w.heap.size w W)=>cell7Q (h.below hb));have hwd:cl.Wds [smallW id,smallW (i1 + f),smallW n]:=fun x hx=>by
  simp only [List.mem_cons,List.not_mem_nil,or_false] at hx
  rcases hx with rfl | rfl | rfl
  ·exact ⟨(num_small (n:=id) (by omega) (by omega)).1,(num_small (n:=id) (by omega) (by omega)).2.1⟩
  ·exact ⟨(num_small (n:=i1 + f) (by omega) (by omega)).1,(num_small (n:=i1 + f) (by omega) (by omega)).2.1⟩
  ·exact ⟨(num_small (n:=n) (by omega) (by omega)).1,(num_small (n:=n) (by omega) (by omega)).2.1⟩
 have HBX:Hid (∀ W S',HQ W B z a b c { σ with E:=upE σ.E i 1 } S'→Calls Tryz.prog 78 #[.pointer (some ⟨z,0,none⟩),.int .i64 8,.slice (some ⟨W.heap.size,0,none⟩) 3 3] (W.alloc (.cells #[.int .u64 (smallW id),.int .u64 (smallW (i1 + f)),.int .u64 (smallW n)] 40)) (RQ B z a b c S' (boxO 8 [smallW id,smallW (i1 + f),smallW n] { σ with E:=upE σ.E i 1 }) W)) :=
  Lib.hid (fun W S' hq=>boxLit hq (k:=8) (by omega) (by omega) [smallW id,smallW (i1 + f),smallW n] hwd (by simp) (by show σ.Y.length + 1 + 3 ≤ 1000000;omega))
 unfold RQ at HBX;have q1:decide (f < 0) = false:=decide_eq_false (by omega);have q2:decide (n < 0) = false:=decide_eq_false (by omega);have q3:decide (N < f) = false:=decide_eq_false (by omega);have w1:IntKind.i64.wrap (N - f) = N - f:=IntWalk.i64_in _ (by omega);have q4:decide (N - f < n) = false:=decide_eq_false (by omega);have q5:decide (c - σ.Y.length < 4) = false:=decide_eq_false hR;have q6:decide (512 < n) = true:=decide_eq_true n0;have w2:IntKind.i64.wrap (i1 + f) = y:=by rw [← hy];exact IntWalk.i64_in _ (by omega)
 rw [hy] at HBX;rw [hy];clear h hv hp hk hw hwd he d0 d1 e0 e1 g0 g1 f0 fn n0 c0 c1 hR hc1 hc2 hY;clear hy;generalize smallW id = s0 at *;generalize smallW i1 = s1 at *;generalize smallW y = s2 at *;generalize smallW n = s3 at *;generalize (boxO 8 [s0,s2,s3] { σ with E:=upE σ.E i 1 }).1 = r1 at *;generalize hσ:{ σ with E:=upE σ.E i 1 } = σ1 at *;generalize (boxO 8 [s0,s2,s3] σ1).2 = σ2 at *;go_enter Tryz.func24,Tryz.ntmps24;go_wp2_with fail;refine (HM.out _ (Below.refl _ _)).mono ?_;rintro e w3 ⟨rfl,rfl⟩;go_wp2_with fail;refine (HK.out _ (Below.refl _ _)).mono ?_;rintro e w4 ⟨rfl,hb⟩
 have HB4:=Lib.hid hb;clear hb;go_wp2_with fail;refine (HL.out _ HB4.out).mono ?_;rintro e w5 ⟨rfl,hb⟩;have HB5:=Lib.hid (HB4.out.trans (hb.mono HB4.out.size));clear hb;go_wp2_with fail;refine (HR.out _ HB5.out).mono ?_;rintro e W4 ⟨rfl,hb⟩;have hbd:=HB5.out.trans (hb.mono HB5.out.size);clear hb;go_wp2_with fail;refine (HN.out _).mono ?_;rintro e W4 ⟨rfl,rfl⟩
 all_goals
  go_wp2_with fail;refine (HO.out _ hbd).mono ?_;rintro e w6 ⟨u,rfl,hR,hb⟩;have HB6:=Lib.hid (hbd.trans (hb.mono hbd.size));obtain ⟨g,o,k,ev,hg,r0,r1',r2⟩:=row3 hR;subst ev;clear hb hR hbd;go_wp2_with fail;have c7:w6.drew.cell? ⟨z,7,none⟩ = some (.pointer (some ⟨b,0,none⟩)):=HC.out _ (belowD HB6.out);have r0d:w6.drew.cell? ⟨g,o,none⟩ = some (.int .u64 s0):=r0;have r1d:w6.drew.cell? ⟨g,o + 1,none⟩ = some (.int .u64 s1):=r1';have hbd:=belowD HB6.out;have c7':∀ (W:World) (S':Nat→Prop),HQ W B z a b c σ1 S'→W.cell? ⟨z,7,none⟩ = some (.pointer (some ⟨b,0,none⟩)):=fun W S' hq=>cell7Q hq
  go_region_held3 (fun W=>W.cell? ⟨z,7,none⟩ = some (.pointer (some ⟨b,0,none⟩))∧W.cell? ⟨g,o,none⟩ = some (.int .u64 s0)) (go_keep)
   (first
     | (go_at_call 77;refine (H77.out _).mono ?_;rintro e W7 ⟨rfl,rfl⟩)
     | (go_at_call 76;refine (HKp.out _ hbd).mono ?_;rintro e W8 ⟨rfl,⟨S',hq,ht,hc⟩,hkc⟩;have c78:=c7' _ _ hq;have r08:=hkc _ _ _ r0d;have r18:=hkc _ _ _ r1d))
  all_goals
   have HQ8:=Lib.hid hq;have HT8:=Lib.hid ht;have HC8:=Lib.hid hc;clear c7 r0 r1' r2 r0d r1d c7' c78 hq ht hc hkc;go_wp2_with fail;have r0d:W8.drew.cell? ⟨g,o,none⟩ = some (.int .u64 s0):=r08;have r1d:W8.drew.cell? ⟨g,o + 1,none⟩ = some (.int .u64 s1):=r18;clear r08 r18;have HB3:=Lib.hid (HBX.out _ _ (HQ8.out.below (belowD (Below.refl _ W8))));have HBd:=Lib.hid hbd;clear hbd HM HK HL HR HN HO H77 HKp HC HBX HB4 HB5 HB6 HQ8 q1 q2 q3 w1 q4 q5 q6 hg hσ;refine wp_region_held_drew (S:=fun W=>True) (by kernel_rfl) trivial (fun hHeld=>?_)
   refine wpAnyH_take (i:=0) (oi:={ dst:=some 75,op:=Op.move (Operand.tmp 0),type:=34,pos := "heap.go:450",after:=#[],guard:=none }) (v:=?vv0) rfl (by kernel_rfl) (by kernel_rfl) (by kernel_rfl) (fun _ _ _ h=>h) (Or.inl ⟨by rfl,?hy0⟩) (by assumption) ?rs0;case hy0 =>
    intro w hSw;(try dsimp only at hSw)
    go_simp;(try with_reducible rfl)
   (try simp only [Act.put,List.setIfInBounds_toArray,List.set_cons_zero,List.set_cons_succ])
   refine wpAnyH_take (i:=1) (oi:={ dst:=some 76,op:=Op.move (Operand.tmp 13),type:=22,pos := "heap.go:450",after:=#[],guard:=none }) (v:=?vv1) rfl (by kernel_rfl) (by kernel_rfl) (by kernel_rfl) (fun _ _ _ h=>h) (Or.inl ⟨by rfl,?hy1⟩) (by assumption) ?rs1;case hy1 =>
    intro w hSw;(try dsimp only at hSw)
    go_simp;(try with_reducible rfl)
   (try simp only [Act.put,List.setIfInBounds_toArray,List.set_cons_zero,List.set_cons_succ])
   refine wpAnyH_take (i:=2) (oi:={ dst:=some 77,op:=Op.indexAddr 22 (Operand.tmp 76) (Operand.const (Value.int IntKind.i64 0)),type:=0,pos := "heap.go:450",after:=#[{ on:=1,ground:=Ground.data }],guard:=none }) (v:=?vv2) rfl (by kernel_rfl) (by kernel_rfl) (by kernel_rfl) (fun _ _ _ h=>h) (Or.inl ⟨by rfl,?hy2⟩) (by assumption) ?rs2;case hy2 =>
    intro w hSw;(try dsimp only at hSw)
    go_simp;(try with_reducible rfl)
   (try simp only [Act.put,List.setIfInBounds_toArray,List.set_cons_zero,List.set_cons_succ])
   refine wpAnyH_take (i:=4) (oi:={ dst:=some 79,op:=Op.move (Operand.tmp 13),type:=22,pos := "heap.go:450",after:=#[],guard:=none }) (v:=?vv4) rfl (by kernel_rfl) (by kernel_rfl) (by kernel_rfl) (fun _ _ _ h=>h) (Or.inl ⟨by rfl,?hy4⟩) (by assumption) ?rs4;case hy4 =>
    intro w hSw;(try dsimp only at hSw)
    go_simp;(try with_reducible rfl)
   (try simp only [Act.put,List.setIfInBounds_toArray,List.set_cons_zero,List.set_cons_succ])
   refine wpAnyH_take (i:=5) (oi:={ dst:=some 80,op:=Op.indexAddr 22 (Operand.tmp 79) (Operand.const (Value.int IntKind.i64 1)),type:=0,pos := "heap.go:450",after:=#[{ on:=4,ground:=Ground.data }],guard:=none }) (v:=?vv5) rfl (by kernel_rfl) (by kernel_rfl) (by kernel_rfl) (fun _ _ _ h=>h) (Or.inl ⟨by rfl,?hy5⟩) (by assumption) ?rs5;case hy5 =>
    intro w hSw;(try dsimp only at hSw)
    go_simp;(try with_reducible rfl)
   (try simp only [Act.put,List.setIfInBounds_toArray,List.set_cons_zero,List.set_cons_succ])
   refine wpAnyH_take (i:=8) (oi:={ dst:=some 83,op:=Op.move (Operand.tmp 2),type:=3,pos := "heap.go:450",after:=#[],guard:=none }) (v:=?vv8) rfl (by kernel_rfl) (by kernel_rfl) (by kernel_rfl) (fun _ _ _ h=>h) (Or.inl ⟨by rfl,?hy8⟩) (by assumption) ?rs8;case hy8 =>
    intro w hSw;(try dsimp only at hSw)
    go_simp;(try with_reducible rfl)
   (try simp only [Act.put,List.setIfInBounds_toArray,List.set_cons_zero,List.set_cons_succ])
   refine wpAnyH_take (i:=11) (oi:={ dst:=some 86,op:=Op.move (Operand.tmp 3),type:=3,pos := "heap.go:450",after:=#[],guard:=none }) (v:=?vv11) rfl (by kernel_rfl) (by kernel_rfl) (by kernel_rfl) (fun _ _ _ h=>h) (Or.inl ⟨by rfl,?hy11⟩) (by assumption) ?rs11;case hy11 =>
    intro w hSw;(try dsimp only at hSw)
    go_simp;(try with_reducible rfl)
   (try simp only [Act.put,List.setIfInBounds_toArray,List.set_cons_zero,List.set_cons_succ])
   refine wpAnyH_ready (rs:=[3,6]) (by kernel_rfl) (by simp) ?_
   refine (AllReadyH.cons (o:={ dst:=some 78,op:=Op.load 40 (Operand.tmp 77),type:=40,pos := "heap.go:450",after:=#[{ on:=2,ground:=Ground.data }],guard:=none }) rfl (fun K hK=>?_) (AllReadyH.cons (o:={ dst:=some 81,op:=Op.load 40 (Operand.tmp 80),type:=40,pos := "heap.go:450",after:=#[{ on:=5,ground:=Ground.data }],guard:=none }) rfl (fun K hK=>?_) AllReadyH.nil))
   ·go_simp
    refine hK.out _ _ ?_ (fun hHeld=>?_)
    ·exact trivial
    clear hK K;(try simp only [Act.put,List.setIfInBounds_toArray,List.set_cons_zero,List.set_cons_succ])
    refine wpAnyH_ready (rs:=[6]) (by kernel_rfl) (by simp) ?_;refine (AllReadyH.cons (o:={ dst:=some 81,op:=Op.load 40 (Operand.tmp 80),type:=40,pos := "heap.go:450",after:=#[{ on:=5,ground:=Ground.data }],guard:=none }) rfl (fun K hK=>?_) AllReadyH.nil);go_simp
    refine hK.out _ _ ?_ (fun hHeld=>?_)
    ·exact trivial
    clear hK K;(try simp only [Act.put,List.setIfInBounds_toArray,List.set_cons_zero,List.set_cons_succ])
    refine wpAnyH_ready (rs:=[7]) (by kernel_rfl) (by simp) ?_;refine (AllReadyH.cons (o:={ dst:=some 82,op:=Op.call { callee:=Callee.value (Operand.func 77),args:=#[Operand.tmp 81],argTypes:=#[40] },type:=2,pos := "heap.go:450",after:=#[{ on:=6,ground:=Ground.data }],guard:=none }) rfl (fun K hK=>?_) AllReadyH.nil);go_simp;refine (H77b.out _).mono ?_;rintro e W9 ⟨rfl,rfl⟩;go_wp2_with fail
    refine hK.out _ _ ?_ (fun hHeld=>?_)
    ·exact trivial
    clear hK K;(try simp only [Act.put,List.setIfInBounds_toArray,List.set_cons_zero,List.set_cons_succ])
    refine wpAnyH_take (i:=9) (oi:={ dst:=some 84,op:=Op.binOp BinOp.add 2 (Operand.tmp 82) (Operand.tmp 83) 2,type:=2,pos := "heap.go:450",after:=#[{ on:=7,ground:=Ground.data },{ on:=8,ground:=Ground.data }],guard:=none }) (v:=?vvx39) rfl (by kernel_rfl) (by kernel_rfl) (by kernel_rfl) (fun _ _ _ h=>h) (Or.inl ⟨by rfl,?hyx39⟩) (by assumption) ?rsx39;case hyx39 =>
     intro w hSw;(try dsimp only at hSw)
     go_simp;(try with_reducible rfl)
    (try simp only [Act.put,List.setIfInBounds_toArray,List.set_cons_zero,List.set_cons_succ])
    refine wpAnyH_ready (rs:=[10]) (by kernel_rfl) (by simp) ?_;refine (AllReadyH.cons (o:={ dst:=some 85,op:=Op.call { callee:=Callee.value (Operand.func 79),args:=#[Operand.tmp 84],argTypes:=#[2] },type:=40,pos := "heap.go:450",after:=#[{ on:=9,ground:=Ground.data },{ on:=7,ground:=Ground.chain }],guard:=none }) rfl (fun K hK=>?_) AllReadyH.nil);go_simp;refine (H79.out _).mono ?_;rintro e W9 ⟨rfl,rfl⟩;go_wp2_with fail
    refine hK.out _ _ ?_ (fun hHeld=>?_)
    ·exact trivial
    clear hK K;(try simp only [Act.put,List.setIfInBounds_toArray,List.set_cons_zero,List.set_cons_succ])
    refine wpAnyH_ready (rs:=[12]) (by kernel_rfl) (by simp) ?_;refine (AllReadyH.cons (o:={ dst:=some 87,op:=Op.call { callee:=Callee.value (Operand.func 79),args:=#[Operand.tmp 86],argTypes:=#[2] },type:=40,pos := "heap.go:450",after:=#[{ on:=11,ground:=Ground.data },{ on:=10,ground:=Ground.chain }],guard:=none }) rfl (fun K hK=>?_) AllReadyH.nil);go_simp;refine (H79b.out _).mono ?_;rintro e W9 ⟨rfl,rfl⟩;go_wp2_with fail
    refine hK.out _ _ ?_ (fun hHeld=>?_)
    ·exact trivial
    clear hK K;(try simp only [Act.put,List.setIfInBounds_toArray,List.set_cons_zero,List.set_cons_succ])
    refine wpAnyH_ready (rs:=[13]) (by kernel_rfl) (by simp) ?_;refine (AllReadyH.cons (o:={ dst:=some 88,op:=Op.buildSlice 22 3 #[(0,Operand.tmp 78),(1,Operand.tmp 85),(2,Operand.tmp 87)],type:=22,pos := "heap.go:450",after:=#[{ on:=3,ground:=Ground.data },{ on:=10,ground:=Ground.data },{ on:=12,ground:=Ground.data }],guard:=none }) rfl (fun K hK=>?_) AllReadyH.nil);go_simp
    refine hK.out _ _ ?_ (fun hHeld=>?_)
    ·exact trivial
    clear hK K;(try simp only [Act.put,List.setIfInBounds_toArray,List.set_cons_zero,List.set_cons_succ])
    refine wpAnyH_ready (rs:=[14]) (by kernel_rfl) (by simp) ?_;refine (AllReadyH.cons (o:={ dst:=some 89,op:=Op.call { callee:=Callee.value (Operand.func 78),args:=#[Operand.tmp 75,Operand.const (Value.int IntKind.i64 8),Operand.tmp 88],argTypes:=#[34,3,22] },type:=40,pos := "heap.go:450",after:=#[{ on:=0,ground:=Ground.data },{ on:=13,ground:=Ground.data },{ on:=12,ground:=Ground.chain }],guard:=none }) rfl (fun K hK=>?_) AllReadyH.nil);go_simp;refine HB3.out.mono ?_;rintro e W9 ⟨rfl,hq⟩;go_wp2_with fail
    refine hK.out _ _ ?_ (fun hHeld=>?_)
    ·exact trivial
    clear hK K;(try simp only [Act.put,List.setIfInBounds_toArray,List.set_cons_zero,List.set_cons_succ])
    refine wpAnyH_take (i:=15) (oi:={ dst:=some 8,op:=Op.assign (Operand.tmp 89),type:=40,pos := "heap.go:450",after:=#[{ on:=14,ground:=Ground.data },{ on:=14,ground:=Ground.chain },{ on:=0,ground:=Ground.phase },{ on:=1,ground:=Ground.phase },{ on:=2,ground:=Ground.phase },{ on:=3,ground:=Ground.phase },{ on:=4,ground:=Ground.phase },{ on:=5,ground:=Ground.phase },{ on:=6,ground:=Ground.phase },{ on:=7,ground:=Ground.phase },{ on:=8,ground:=Ground.phase },{ on:=9,ground:=Ground.phase },{ on:=10,ground:=Ground.phase },{ on:=11,ground:=Ground.phase },{ on:=12,ground:=Ground.phase },{ on:=13,ground:=Ground.phase },{ on:=14,ground:=Ground.phase }],guard:=none }) (v:=?vvx315) rfl (by kernel_rfl) (by kernel_rfl) (by kernel_rfl) (fun _ _ _ h=>h) (Or.inl ⟨by rfl,?hyx315⟩) (by assumption) ?rsx315
    case hyx315 =>
     intro w hSw;(try dsimp only at hSw)
     go_simp;(try with_reducible rfl)
    (try simp only [Act.put,List.setIfInBounds_toArray,List.set_cons_zero,List.set_cons_succ])
    refine wpAnyH_take (i:=16) (oi:={ dst:=some 9,op:=Op.assign (Operand.const (Value.int IntKind.i64 0)),type:=31,pos := "heap.go:450",after:=#[{ on:=15,ground:=Ground.chain },{ on:=0,ground:=Ground.phase },{ on:=1,ground:=Ground.phase },{ on:=2,ground:=Ground.phase },{ on:=3,ground:=Ground.phase },{ on:=4,ground:=Ground.phase },{ on:=5,ground:=Ground.phase },{ on:=6,ground:=Ground.phase },{ on:=7,ground:=Ground.phase },{ on:=8,ground:=Ground.phase },{ on:=9,ground:=Ground.phase },{ on:=10,ground:=Ground.phase },{ on:=11,ground:=Ground.phase },{ on:=12,ground:=Ground.phase },{ on:=13,ground:=Ground.phase },{ on:=14,ground:=Ground.phase },{ on:=15,ground:=Ground.phase }],guard:=none }) (v:=?vvx316) rfl (by kernel_rfl) (by kernel_rfl) (by kernel_rfl) (fun _ _ _ h=>h) (Or.inl ⟨by rfl,?hyx316⟩) (by assumption) ?rsx316
    case hyx316 =>
     intro w hSw;(try dsimp only at hSw)
     go_simp;(try with_reducible rfl)
    (try simp only [Act.put,List.setIfInBounds_toArray,List.set_cons_zero,List.set_cons_succ])
    refine wpAnyH_done (by kernel_rfl) ?_ _;have HQ9:=Lib.hid hq;clear hq;go_wp2_with fail;go_ret2
    exact ⟨rfl,StepQ.of_below HBd.out (StepQ.trans HT8.out HC8.out (StepQ.of_below (belowD (Below.refl _ W8)) HQ9.out))⟩
   ·go_simp
    refine hK.out _ _ ?_ (fun hHeld=>?_)
    ·exact trivial
    clear hK K;(try simp only [Act.put,List.setIfInBounds_toArray,List.set_cons_zero,List.set_cons_succ])
    refine wpAnyH_ready (rs:=[3,7]) (by kernel_rfl) (by simp) ?_
    refine (AllReadyH.cons (o:={ dst:=some 78,op:=Op.load 40 (Operand.tmp 77),type:=40,pos := "heap.go:450",after:=#[{ on:=2,ground:=Ground.data }],guard:=none }) rfl (fun K hK=>?_) (AllReadyH.cons (o:={ dst:=some 82,op:=Op.call { callee:=Callee.value (Operand.func 77),args:=#[Operand.tmp 81],argTypes:=#[40] },type:=2,pos := "heap.go:450",after:=#[{ on:=6,ground:=Ground.data }],guard:=none }) rfl (fun K hK=>?_) AllReadyH.nil))
    ·go_simp
     refine hK.out _ _ ?_ (fun hHeld=>?_)
     ·exact trivial
     clear hK K;(try simp only [Act.put,List.setIfInBounds_toArray,List.set_cons_zero,List.set_cons_succ])
     refine wpAnyH_ready (rs:=[7]) (by kernel_rfl) (by simp) ?_;refine (AllReadyH.cons (o:={ dst:=some 82,op:=Op.call { callee:=Callee.value (Operand.func 77),args:=#[Operand.tmp 81],argTypes:=#[40] },type:=2,pos := "heap.go:450",after:=#[{ on:=6,ground:=Ground.data }],guard:=none }) rfl (fun K hK=>?_) AllReadyH.nil);go_simp;refine (H77b.out _).mono ?_;rintro e W9 ⟨rfl,rfl⟩;go_wp2_with fail
     refine hK.out _ _ ?_ (fun hHeld=>?_)
     ·exact trivial
     clear hK K;(try simp only [Act.put,List.setIfInBounds_toArray,List.set_cons_zero,List.set_cons_succ])
     refine wpAnyH_take (i:=9) (oi:={ dst:=some 84,op:=Op.binOp BinOp.add 2 (Operand.tmp 82) (Operand.tmp 83) 2,type:=2,pos := "heap.go:450",after:=#[{ on:=7,ground:=Ground.data },{ on:=8,ground:=Ground.data }],guard:=none }) (v:=?vvx6x39) rfl (by kernel_rfl) (by kernel_rfl) (by kernel_rfl) (fun _ _ _ h=>h) (Or.inl ⟨by rfl,?hyx6x39⟩) (by assumption) ?rsx6x39;case hyx6x39 =>
      intro w hSw;(try dsimp only at hSw)
      go_simp;(try with_reducible rfl)
     (try simp only [Act.put,List.setIfInBounds_toArray,List.set_cons_zero,List.set_cons_succ])
     refine wpAnyH_ready (rs:=[10]) (by kernel_rfl) (by simp) ?_;refine (AllReadyH.cons (o:={ dst:=some 85,op:=Op.call { callee:=Callee.value (Operand.func 79),args:=#[Operand.tmp 84],argTypes:=#[2] },type:=40,pos := "heap.go:450",after:=#[{ on:=9,ground:=Ground.data },{ on:=7,ground:=Ground.chain }],guard:=none }) rfl (fun K hK=>?_) AllReadyH.nil);go_simp;refine (H79.out _).mono ?_;rintro e W9 ⟨rfl,rfl⟩;go_wp2_with fail
     refine hK.out _ _ ?_ (fun hHeld=>?_)
     ·exact trivial
     clear hK K;(try simp only [Act.put,List.setIfInBounds_toArray,List.set_cons_zero,List.set_cons_succ])
     refine wpAnyH_ready (rs:=[12]) (by kernel_rfl) (by simp) ?_;refine (AllReadyH.cons (o:={ dst:=some 87,op:=Op.call { callee:=Callee.value (Operand.func 79),args:=#[Operand.tmp 86],argTypes:=#[2] },type:=40,pos := "heap.go:450",after:=#[{ on:=11,ground:=Ground.data },{ on:=10,ground:=Ground.chain }],guard:=none }) rfl (fun K hK=>?_) AllReadyH.nil);go_simp;refine (H79b.out _).mono ?_;rintro e W9 ⟨rfl,rfl⟩;go_wp2_with fail
     refine hK.out _ _ ?_ (fun hHeld=>?_)
     ·exact trivial
     clear hK K;(try simp only [Act.put,List.setIfInBounds_toArray,List.set_cons_zero,List.set_cons_succ])
     refine wpAnyH_ready (rs:=[13]) (by kernel_rfl) (by simp) ?_;refine (AllReadyH.cons (o:={ dst:=some 88,op:=Op.buildSlice 22 3 #[(0,Operand.tmp 78),(1,Operand.tmp 85),(2,Operand.tmp 87)],type:=22,pos := "heap.go:450",after:=#[{ on:=3,ground:=Ground.data },{ on:=10,ground:=Ground.data },{ on:=12,ground:=Ground.data }],guard:=none }) rfl (fun K hK=>?_) AllReadyH.nil);go_simp
     refine hK.out _ _ ?_ (fun hHeld=>?_)
     ·exact trivial
     clear hK K;(try simp only [Act.put,List.setIfInBounds_toArray,List.set_cons_zero,List.set_cons_succ])
     refine wpAnyH_ready (rs:=[14]) (by kernel_rfl) (by simp) ?_;refine (AllReadyH.cons (o:={ dst:=some 89,op:=Op.call { callee:=Callee.value (Operand.func 78),args:=#[Operand.tmp 75,Operand.const (Value.int IntKind.i64 8),Operand.tmp 88],argTypes:=#[34,3,22] },type:=40,pos := "heap.go:450",after:=#[{ on:=0,ground:=Ground.data },{ on:=13,ground:=Ground.data },{ on:=12,ground:=Ground.chain }],guard:=none }) rfl (fun K hK=>?_) AllReadyH.nil);go_simp;refine HB3.out.mono ?_;rintro e W9 ⟨rfl,hq⟩;go_wp2_with fail
     refine hK.out _ _ ?_ (fun hHeld=>?_)
     ·exact trivial
     clear hK K;(try simp only [Act.put,List.setIfInBounds_toArray,List.set_cons_zero,List.set_cons_succ])
     refine wpAnyH_take (i:=15) (oi:={ dst:=some 8,op:=Op.assign (Operand.tmp 89),type:=40,pos := "heap.go:450",after:=#[{ on:=14,ground:=Ground.data },{ on:=14,ground:=Ground.chain },{ on:=0,ground:=Ground.phase },{ on:=1,ground:=Ground.phase },{ on:=2,ground:=Ground.phase },{ on:=3,ground:=Ground.phase },{ on:=4,ground:=Ground.phase },{ on:=5,ground:=Ground.phase },{ on:=6,ground:=Ground.phase },{ on:=7,ground:=Ground.phase },{ on:=8,ground:=Ground.phase },{ on:=9,ground:=Ground.phase },{ on:=10,ground:=Ground.phase },{ on:=11,ground:=Ground.phase },{ on:=12,ground:=Ground.phase },{ on:=13,ground:=Ground.phase },{ on:=14,ground:=Ground.phase }],guard:=none }) (v:=?vvx6x315) rfl (by kernel_rfl) (by kernel_rfl) (by kernel_rfl) (fun _ _ _ h=>h) (Or.inl ⟨by rfl,?hyx6x315⟩) (by assumption) ?rsx6x315
     case hyx6x315 =>
      intro w hSw;(try dsimp only at hSw)
      go_simp;(try with_reducible rfl)
     (try simp only [Act.put,List.setIfInBounds_toArray,List.set_cons_zero,List.set_cons_succ])
     refine wpAnyH_take (i:=16) (oi:={ dst:=some 9,op:=Op.assign (Operand.const (Value.int IntKind.i64 0)),type:=31,pos := "heap.go:450",after:=#[{ on:=15,ground:=Ground.chain },{ on:=0,ground:=Ground.phase },{ on:=1,ground:=Ground.phase },{ on:=2,ground:=Ground.phase },{ on:=3,ground:=Ground.phase },{ on:=4,ground:=Ground.phase },{ on:=5,ground:=Ground.phase },{ on:=6,ground:=Ground.phase },{ on:=7,ground:=Ground.phase },{ on:=8,ground:=Ground.phase },{ on:=9,ground:=Ground.phase },{ on:=10,ground:=Ground.phase },{ on:=11,ground:=Ground.phase },{ on:=12,ground:=Ground.phase },{ on:=13,ground:=Ground.phase },{ on:=14,ground:=Ground.phase },{ on:=15,ground:=Ground.phase }],guard:=none }) (v:=?vvx6x316) rfl (by kernel_rfl) (by kernel_rfl) (by kernel_rfl) (fun _ _ _ h=>h) (Or.inl ⟨by rfl,?hyx6x316⟩) (by assumption) ?rsx6x316
     case hyx6x316 =>
      intro w hSw;(try dsimp only at hSw)
      go_simp;(try with_reducible rfl)
     (try simp only [Act.put,List.setIfInBounds_toArray,List.set_cons_zero,List.set_cons_succ])
     refine wpAnyH_done (by kernel_rfl) ?_ _;have HQ9:=Lib.hid hq;clear hq;go_wp2_with fail;go_ret2
     exact ⟨rfl,StepQ.of_below HBd.out (StepQ.trans HT8.out HC8.out (StepQ.of_below (belowD (Below.refl _ W8)) HQ9.out))⟩
    ·go_simp;refine (H77b.out _).mono ?_;rintro e W9 ⟨rfl,rfl⟩;go_wp2_with fail
     refine hK.out _ _ ?_ (fun hHeld=>?_)
     ·exact trivial
     clear hK K;(try simp only [Act.put,List.setIfInBounds_toArray,List.set_cons_zero,List.set_cons_succ])
     refine wpAnyH_take (i:=9) (oi:={ dst:=some 84,op:=Op.binOp BinOp.add 2 (Operand.tmp 82) (Operand.tmp 83) 2,type:=2,pos := "heap.go:450",after:=#[{ on:=7,ground:=Ground.data },{ on:=8,ground:=Ground.data }],guard:=none }) (v:=?vvx6x79) rfl (by kernel_rfl) (by kernel_rfl) (by kernel_rfl) (fun _ _ _ h=>h) (Or.inl ⟨by rfl,?hyx6x79⟩) (by assumption) ?rsx6x79;case hyx6x79 =>
      intro w hSw;(try dsimp only at hSw)
      go_simp;(try with_reducible rfl)
     (try simp only [Act.put,List.setIfInBounds_toArray,List.set_cons_zero,List.set_cons_succ])
     refine wpAnyH_ready (rs:=[3,10]) (by kernel_rfl) (by simp) ?_
     refine (AllReadyH.cons (o:={ dst:=some 78,op:=Op.load 40 (Operand.tmp 77),type:=40,pos := "heap.go:450",after:=#[{ on:=2,ground:=Ground.data }],guard:=none }) rfl (fun K hK=>?_) (AllReadyH.cons (o:={ dst:=some 85,op:=Op.call { callee:=Callee.value (Operand.func 79),args:=#[Operand.tmp 84],argTypes:=#[2] },type:=40,pos := "heap.go:450",after:=#[{ on:=9,ground:=Ground.data },{ on:=7,ground:=Ground.chain }],guard:=none }) rfl (fun K hK=>?_) AllReadyH.nil))
     ·go_simp
      refine hK.out _ _ ?_ (fun hHeld=>?_)
      ·exact trivial
      clear hK K;(try simp only [Act.put,List.setIfInBounds_toArray,List.set_cons_zero,List.set_cons_succ])
      refine wpAnyH_ready (rs:=[10]) (by kernel_rfl) (by simp) ?_;refine (AllReadyH.cons (o:={ dst:=some 85,op:=Op.call { callee:=Callee.value (Operand.func 79),args:=#[Operand.tmp 84],argTypes:=#[2] },type:=40,pos := "heap.go:450",after:=#[{ on:=9,ground:=Ground.data },{ on:=7,ground:=Ground.chain }],guard:=none }) rfl (fun K hK=>?_) AllReadyH.nil);go_simp;refine (H79.out _).mono ?_;rintro e W9 ⟨rfl,rfl⟩;go_wp2_with fail
      refine hK.out _ _ ?_ (fun hHeld=>?_)
      ·exact trivial
      clear hK K;(try simp only [Act.put,List.setIfInBounds_toArray,List.set_cons_zero,List.set_cons_succ])
      refine wpAnyH_ready (rs:=[12]) (by kernel_rfl) (by simp) ?_;refine (AllReadyH.cons (o:={ dst:=some 87,op:=Op.call { callee:=Callee.value (Operand.func 79),args:=#[Operand.tmp 86],argTypes:=#[2] },type:=40,pos := "heap.go:450",after:=#[{ on:=11,ground:=Ground.data },{ on:=10,ground:=Ground.chain }],guard:=none }) rfl (fun K hK=>?_) AllReadyH.nil);go_simp;refine (H79b.out _).mono ?_;rintro e W9 ⟨rfl,rfl⟩;go_wp2_with fail
      refine hK.out _ _ ?_ (fun hHeld=>?_)
      ·exact trivial
      clear hK K;(try simp only [Act.put,List.setIfInBounds_toArray,List.set_cons_zero,List.set_cons_succ])
      refine wpAnyH_ready (rs:=[13]) (by kernel_rfl) (by simp) ?_;refine (AllReadyH.cons (o:={ dst:=some 88,op:=Op.buildSlice 22 3 #[(0,Operand.tmp 78),(1,Operand.tmp 85),(2,Operand.tmp 87)],type:=22,pos := "heap.go:450",after:=#[{ on:=3,ground:=Ground.data },{ on:=10,ground:=Ground.data },{ on:=12,ground:=Ground.data }],guard:=none }) rfl (fun K hK=>?_) AllReadyH.nil);go_simp
      refine hK.out _ _ ?_ (fun hHeld=>?_)
      ·exact trivial
      clear hK K;(try simp only [Act.put,List.setIfInBounds_toArray,List.set_cons_zero,List.set_cons_succ])
      refine wpAnyH_ready (rs:=[14]) (by kernel_rfl) (by simp) ?_;refine (AllReadyH.cons (o:={ dst:=some 89,op:=Op.call { callee:=Callee.value (Operand.func 78),args:=#[Operand.tmp 75,Operand.const (Value.int IntKind.i64 8),Operand.tmp 88],argTypes:=#[34,3,22] },type:=40,pos := "heap.go:450",after:=#[{ on:=0,ground:=Ground.data },{ on:=13,ground:=Ground.data },{ on:=12,ground:=Ground.chain }],guard:=none }) rfl (fun K hK=>?_) AllReadyH.nil);go_simp;refine HB3.out.mono ?_;rintro e W9 ⟨rfl,hq⟩;go_wp2_with fail
      refine hK.out _ _ ?_ (fun hHeld=>?_)
      ·exact trivial
      clear hK K;(try simp only [Act.put,List.setIfInBounds_toArray,List.set_cons_zero,List.set_cons_succ])
      refine wpAnyH_take (i:=15) (oi:={ dst:=some 8,op:=Op.assign (Operand.tmp 89),type:=40,pos := "heap.go:450",after:=#[{ on:=14,ground:=Ground.data },{ on:=14,ground:=Ground.chain },{ on:=0,ground:=Ground.phase },{ on:=1,ground:=Ground.phase },{ on:=2,ground:=Ground.phase },{ on:=3,ground:=Ground.phase },{ on:=4,ground:=Ground.phase },{ on:=5,ground:=Ground.phase },{ on:=6,ground:=Ground.phase },{ on:=7,ground:=Ground.phase },{ on:=8,ground:=Ground.phase },{ on:=9,ground:=Ground.phase },{ on:=10,ground:=Ground.phase },{ on:=11,ground:=Ground.phase },{ on:=12,ground:=Ground.phase },{ on:=13,ground:=Ground.phase },{ on:=14,ground:=Ground.phase }],guard:=none }) (v:=?vvx6x7x315) rfl (by kernel_rfl) (by kernel_rfl) (by kernel_rfl) (fun _ _ _ h=>h) (Or.inl ⟨by rfl,?hyx6x7x315⟩) (by assumption) ?rsx6x7x315
      case hyx6x7x315 =>
       intro w hSw;(try dsimp only at hSw)
       go_simp;(try with_reducible rfl)
      (try simp only [Act.put,List.setIfInBounds_toArray,List.set_cons_zero,List.set_cons_succ])
      refine wpAnyH_take (i:=16) (oi:={ dst:=some 9,op:=Op.assign (Operand.const (Value.int IntKind.i64 0)),type:=31,pos := "heap.go:450",after:=#[{ on:=15,ground:=Ground.chain },{ on:=0,ground:=Ground.phase },{ on:=1,ground:=Ground.phase },{ on:=2,ground:=Ground.phase },{ on:=3,ground:=Ground.phase },{ on:=4,ground:=Ground.phase },{ on:=5,ground:=Ground.phase },{ on:=6,ground:=Ground.phase },{ on:=7,ground:=Ground.phase },{ on:=8,ground:=Ground.phase },{ on:=9,ground:=Ground.phase },{ on:=10,ground:=Ground.phase },{ on:=11,ground:=Ground.phase },{ on:=12,ground:=Ground.phase },{ on:=13,ground:=Ground.phase },{ on:=14,ground:=Ground.phase },{ on:=15,ground:=Ground.phase }],guard:=none }) (v:=?vvx6x7x316) rfl (by kernel_rfl) (by kernel_rfl) (by kernel_rfl) (fun _ _ _ h=>h) (Or.inl ⟨by rfl,?hyx6x7x316⟩) (by assumption) ?rsx6x7x316
      case hyx6x7x316 =>
       intro w hSw;(try dsimp only at hSw)
       go_simp;(try with_reducible rfl)
      (try simp only [Act.put,List.setIfInBounds_toArray,List.set_cons_zero,List.set_cons_succ])
      refine wpAnyH_done (by kernel_rfl) ?_ _;have HQ9:=Lib.hid hq;clear hq;go_wp2_with fail;go_ret2
      exact ⟨rfl,StepQ.of_below HBd.out (StepQ.trans HT8.out HC8.out (StepQ.of_below (belowD (Below.refl _ W8)) HQ9.out))⟩
     ·go_simp;refine (H79.out _).mono ?_;rintro e W9 ⟨rfl,rfl⟩;go_wp2_with fail
      refine hK.out _ _ ?_ (fun hHeld=>?_)
      ·exact trivial
      clear hK K;(try simp only [Act.put,List.setIfInBounds_toArray,List.set_cons_zero,List.set_cons_succ])
      refine wpAnyH_ready (rs:=[3,12]) (by kernel_rfl) (by simp) ?_
      refine (AllReadyH.cons (o:={ dst:=some 78,op:=Op.load 40 (Operand.tmp 77),type:=40,pos := "heap.go:450",after:=#[{ on:=2,ground:=Ground.data }],guard:=none }) rfl (fun K hK=>?_) (AllReadyH.cons (o:={ dst:=some 87,op:=Op.call { callee:=Callee.value (Operand.func 79),args:=#[Operand.tmp 86],argTypes:=#[2] },type:=40,pos := "heap.go:450",after:=#[{ on:=11,ground:=Ground.data },{ on:=10,ground:=Ground.chain }],guard:=none }) rfl (fun K hK=>?_) AllReadyH.nil))
      ·go_simp
       refine hK.out _ _ ?_ (fun hHeld=>?_)
       ·exact trivial
       clear hK K;(try simp only [Act.put,List.setIfInBounds_toArray,List.set_cons_zero,List.set_cons_succ])
       refine wpAnyH_ready (rs:=[12]) (by kernel_rfl) (by simp) ?_;refine (AllReadyH.cons (o:={ dst:=some 87,op:=Op.call { callee:=Callee.value (Operand.func 79),args:=#[Operand.tmp 86],argTypes:=#[2] },type:=40,pos := "heap.go:450",after:=#[{ on:=11,ground:=Ground.data },{ on:=10,ground:=Ground.chain }],guard:=none }) rfl (fun K hK=>?_) AllReadyH.nil);go_simp;refine (H79b.out _).mono ?_;rintro e W9 ⟨rfl,rfl⟩;go_wp2_with fail
       refine hK.out _ _ ?_ (fun hHeld=>?_)
       ·exact trivial
       clear hK K;(try simp only [Act.put,List.setIfInBounds_toArray,List.set_cons_zero,List.set_cons_succ])
       refine wpAnyH_ready (rs:=[13]) (by kernel_rfl) (by simp) ?_;refine (AllReadyH.cons (o:={ dst:=some 88,op:=Op.buildSlice 22 3 #[(0,Operand.tmp 78),(1,Operand.tmp 85),(2,Operand.tmp 87)],type:=22,pos := "heap.go:450",after:=#[{ on:=3,ground:=Ground.data },{ on:=10,ground:=Ground.data },{ on:=12,ground:=Ground.data }],guard:=none }) rfl (fun K hK=>?_) AllReadyH.nil);go_simp
       refine hK.out _ _ ?_ (fun hHeld=>?_)
       ·exact trivial
       clear hK K;(try simp only [Act.put,List.setIfInBounds_toArray,List.set_cons_zero,List.set_cons_succ])
       refine wpAnyH_ready (rs:=[14]) (by kernel_rfl) (by simp) ?_;refine (AllReadyH.cons (o:={ dst:=some 89,op:=Op.call { callee:=Callee.value (Operand.func 78),args:=#[Operand.tmp 75,Operand.const (Value.int IntKind.i64 8),Operand.tmp 88],argTypes:=#[34,3,22] },type:=40,pos := "heap.go:450",after:=#[{ on:=0,ground:=Ground.data },{ on:=13,ground:=Ground.data },{ on:=12,ground:=Ground.chain }],guard:=none }) rfl (fun K hK=>?_) AllReadyH.nil);go_simp;refine HB3.out.mono ?_;rintro e W9 ⟨rfl,hq⟩;go_wp2_with fail
       refine hK.out _ _ ?_ (fun hHeld=>?_)
       ·exact trivial
       clear hK K;(try simp only [Act.put,List.setIfInBounds_toArray,List.set_cons_zero,List.set_cons_succ])
       refine wpAnyH_take (i:=15) (oi:={ dst:=some 8,op:=Op.assign (Operand.tmp 89),type:=40,pos := "heap.go:450",after:=#[{ on:=14,ground:=Ground.data },{ on:=14,ground:=Ground.chain },{ on:=0,ground:=Ground.phase },{ on:=1,ground:=Ground.phase },{ on:=2,ground:=Ground.phase },{ on:=3,ground:=Ground.phase },{ on:=4,ground:=Ground.phase },{ on:=5,ground:=Ground.phase },{ on:=6,ground:=Ground.phase },{ on:=7,ground:=Ground.phase },{ on:=8,ground:=Ground.phase },{ on:=9,ground:=Ground.phase },{ on:=10,ground:=Ground.phase },{ on:=11,ground:=Ground.phase },{ on:=12,ground:=Ground.phase },{ on:=13,ground:=Ground.phase },{ on:=14,ground:=Ground.phase }],guard:=none }) (v:=?vvx6x7x10x315) rfl (by kernel_rfl) (by kernel_rfl) (by kernel_rfl) (fun _ _ _ h=>h) (Or.inl ⟨by rfl,?hyx6x7x10x315⟩) (by assumption) ?rsx6x7x10x315
       case hyx6x7x10x315 =>
        intro w hSw;(try dsimp only at hSw)
        go_simp;(try with_reducible rfl)
       (try simp only [Act.put,List.setIfInBounds_toArray,List.set_cons_zero,List.set_cons_succ])
       refine wpAnyH_take (i:=16) (oi:={ dst:=some 9,op:=Op.assign (Operand.const (Value.int IntKind.i64 0)),type:=31,pos := "heap.go:450",after:=#[{ on:=15,ground:=Ground.chain },{ on:=0,ground:=Ground.phase },{ on:=1,ground:=Ground.phase },{ on:=2,ground:=Ground.phase },{ on:=3,ground:=Ground.phase },{ on:=4,ground:=Ground.phase },{ on:=5,ground:=Ground.phase },{ on:=6,ground:=Ground.phase },{ on:=7,ground:=Ground.phase },{ on:=8,ground:=Ground.phase },{ on:=9,ground:=Ground.phase },{ on:=10,ground:=Ground.phase },{ on:=11,ground:=Ground.phase },{ on:=12,ground:=Ground.phase },{ on:=13,ground:=Ground.phase },{ on:=14,ground:=Ground.phase },{ on:=15,ground:=Ground.phase }],guard:=none }) (v:=?vvx6x7x10x316) rfl (by kernel_rfl) (by kernel_rfl) (by kernel_rfl) (fun _ _ _ h=>h) (Or.inl ⟨by rfl,?hyx6x7x10x316⟩) (by assumption) ?rsx6x7x10x316
       case hyx6x7x10x316 =>
        intro w hSw;(try dsimp only at hSw)
        go_simp;(try with_reducible rfl)
       (try simp only [Act.put,List.setIfInBounds_toArray,List.set_cons_zero,List.set_cons_succ])
       refine wpAnyH_done (by kernel_rfl) ?_ _;have HQ9:=Lib.hid hq;clear hq;go_wp2_with fail;go_ret2
       exact ⟨rfl,StepQ.of_below HBd.out (StepQ.trans HT8.out HC8.out (StepQ.of_below (belowD (Below.refl _ W8)) HQ9.out))⟩
      ·go_simp;refine (H79b.out _).mono ?_;rintro e W9 ⟨rfl,rfl⟩;go_wp2_with fail
       refine hK.out _ _ ?_ (fun hHeld=>?_)
       ·exact trivial
       clear hK K;(try simp only [Act.put,List.setIfInBounds_toArray,List.set_cons_zero,List.set_cons_succ])
       refine wpAnyH_ready (rs:=[3]) (by kernel_rfl) (by simp) ?_;refine (AllReadyH.cons (o:={ dst:=some 78,op:=Op.load 40 (Operand.tmp 77),type:=40,pos := "heap.go:450",after:=#[{ on:=2,ground:=Ground.data }],guard:=none }) rfl (fun K hK=>?_) AllReadyH.nil);go_simp
       refine hK.out _ _ ?_ (fun hHeld=>?_)
       ·exact trivial
       clear hK K;(try simp only [Act.put,List.setIfInBounds_toArray,List.set_cons_zero,List.set_cons_succ])
       refine wpAnyH_ready (rs:=[13]) (by kernel_rfl) (by simp) ?_;refine (AllReadyH.cons (o:={ dst:=some 88,op:=Op.buildSlice 22 3 #[(0,Operand.tmp 78),(1,Operand.tmp 85),(2,Operand.tmp 87)],type:=22,pos := "heap.go:450",after:=#[{ on:=3,ground:=Ground.data },{ on:=10,ground:=Ground.data },{ on:=12,ground:=Ground.data }],guard:=none }) rfl (fun K hK=>?_) AllReadyH.nil);go_simp
       refine hK.out _ _ ?_ (fun hHeld=>?_)
       ·exact trivial
       clear hK K;(try simp only [Act.put,List.setIfInBounds_toArray,List.set_cons_zero,List.set_cons_succ])
       refine wpAnyH_ready (rs:=[14]) (by kernel_rfl) (by simp) ?_;refine (AllReadyH.cons (o:={ dst:=some 89,op:=Op.call { callee:=Callee.value (Operand.func 78),args:=#[Operand.tmp 75,Operand.const (Value.int IntKind.i64 8),Operand.tmp 88],argTypes:=#[34,3,22] },type:=40,pos := "heap.go:450",after:=#[{ on:=0,ground:=Ground.data },{ on:=13,ground:=Ground.data },{ on:=12,ground:=Ground.chain }],guard:=none }) rfl (fun K hK=>?_) AllReadyH.nil);go_simp;refine HB3.out.mono ?_;rintro e W9 ⟨rfl,hq⟩;go_wp2_with fail
       refine hK.out _ _ ?_ (fun hHeld=>?_)
       ·exact trivial
       clear hK K;(try simp only [Act.put,List.setIfInBounds_toArray,List.set_cons_zero,List.set_cons_succ])
       refine wpAnyH_take (i:=15) (oi:={ dst:=some 8,op:=Op.assign (Operand.tmp 89),type:=40,pos := "heap.go:450",after:=#[{ on:=14,ground:=Ground.data },{ on:=14,ground:=Ground.chain },{ on:=0,ground:=Ground.phase },{ on:=1,ground:=Ground.phase },{ on:=2,ground:=Ground.phase },{ on:=3,ground:=Ground.phase },{ on:=4,ground:=Ground.phase },{ on:=5,ground:=Ground.phase },{ on:=6,ground:=Ground.phase },{ on:=7,ground:=Ground.phase },{ on:=8,ground:=Ground.phase },{ on:=9,ground:=Ground.phase },{ on:=10,ground:=Ground.phase },{ on:=11,ground:=Ground.phase },{ on:=12,ground:=Ground.phase },{ on:=13,ground:=Ground.phase },{ on:=14,ground:=Ground.phase }],guard:=none }) (v:=?vvx6x7x10x1215) rfl (by kernel_rfl) (by kernel_rfl) (by kernel_rfl) (fun _ _ _ h=>h) (Or.inl ⟨by rfl,?hyx6x7x10x1215⟩) (by assumption) ?rsx6x7x10x1215
       case hyx6x7x10x1215 =>
        intro w hSw;(try dsimp only at hSw)
        go_simp;(try with_reducible rfl)
       (try simp only [Act.put,List.setIfInBounds_toArray,List.set_cons_zero,List.set_cons_succ])
       refine wpAnyH_take (i:=16) (oi:={ dst:=some 9,op:=Op.assign (Operand.const (Value.int IntKind.i64 0)),type:=31,pos := "heap.go:450",after:=#[{ on:=15,ground:=Ground.chain },{ on:=0,ground:=Ground.phase },{ on:=1,ground:=Ground.phase },{ on:=2,ground:=Ground.phase },{ on:=3,ground:=Ground.phase },{ on:=4,ground:=Ground.phase },{ on:=5,ground:=Ground.phase },{ on:=6,ground:=Ground.phase },{ on:=7,ground:=Ground.phase },{ on:=8,ground:=Ground.phase },{ on:=9,ground:=Ground.phase },{ on:=10,ground:=Ground.phase },{ on:=11,ground:=Ground.phase },{ on:=12,ground:=Ground.phase },{ on:=13,ground:=Ground.phase },{ on:=14,ground:=Ground.phase },{ on:=15,ground:=Ground.phase }],guard:=none }) (v:=?vvx6x7x10x1216) rfl (by kernel_rfl) (by kernel_rfl) (by kernel_rfl) (fun _ _ _ h=>h) (Or.inl ⟨by rfl,?hyx6x7x10x1216⟩) (by assumption) ?rsx6x7x10x1216
       case hyx6x7x10x1216 =>
        intro w hSw;(try dsimp only at hSw)
        go_simp;(try with_reducible rfl)
       (try simp only [Act.put,List.setIfInBounds_toArray,List.set_cons_zero,List.set_cons_succ])
       refine wpAnyH_done (by kernel_rfl) ?_ _;have HQ9:=Lib.hid hq;clear hq;go_wp2_with fail;go_ret2
       exact ⟨rfl,StepQ.of_below HBd.out (StepQ.trans HT8.out HC8.out (StepQ.of_below (belowD (Below.refl _ W8)) HQ9.out))⟩
end
section
variable {w:World} {B z a b:Nat} {c:Int} {σ:St} {S:Nat→Prop}
theorem part24b (h:HQ w B z a b c σ S) (hc1:-2000000 ≤ c) (hc2:c ≤ 2000000) (hY:σ.Y.length ≤ 100000) {v:Int} {x:List Int} (hv:Wok v) (hp:cl.Pt (Kb σ) v x) (hk:cl.knd x = 8) {id:Int} {N n:Nat} (hw:cl.wds x = [smallW id,smallW 0,smallW (N:Int)])
 (d0:1 ≤ id) (d1:id ≤ 500000) (n1:1 ≤ n) (n2:n ≤ 512) {s:ByteArray} {cnt:Int} (he:(id,s,cnt) ∈ σ.E) (hB:BitsOk s (N:Int)) (hN:512 < N) (hR:¬ c - σ.Y.length < 2 + ((n:Int) + 63) / 64) :
 Calls Tryz.prog 24 #[.pointer (some ⟨z,0,none⟩),.int .u64 v,.int .i64 0,.int .i64 (n:Int)] w fun e w'=>e = .returned (.tuple #[.int .u64 (bitsO (cutS s n) (n:Int) σ).1,.int .i64 0])∧StepQ B z a b c S w (bitsO (cutS s n) (n:Int) σ).2 w':=by
 have g1:=hB.n1;have HM:=Lib.hid (fun W (hb:Below w.heap.size w W)=>madeQ (h.below hb));have HK:=Lib.hid (fun W (hb:Below w.heap.size w W)=>kind46Q (h.below hb) hY hv hp (.inl ⟨hk,rfl⟩));have HL:=Lib.hid (fun W (hb:Below w.heap.size w W)=>len74 (h.below hb) hY hv hp hk hw (num_small (by omega) (by omega)));have HR:=Lib.hid (fun W (hb:Below w.heap.size w W)=>roomQ (h.below hb) (by omega) hc1 hc2);have HN:Hid (∀ W,Calls Tryz.prog 71 #[.int .i64 (n:Int)] W fun e w'=>e = .returned (.int .i64 (2 + ((n:Int) + 63) / 64))∧W = w'):=Lib.hid (fun W=>by
  have:=bitWords71 W (n:Int) (by omega) (by omega)
  rw [if_neg (by omega)] at this
  exact this)
 have HO:=Lib.hid (fun W (hb:Below w.heap.size w W)=>objQ (h.below hb) hY hv.1 hv.2.1 hp);unfold ObP at HO;rw [hk,hw] at HO;have HT:=Lib.hid (fun W (hb:Below w.heap.size w W) (v:Value) (hr:RecAt encW 1 W W.heap.size v [smallW id,smallW 0,smallW (N:Int)])=>text81b (h.below hb) hr (Nat.le_refl _) he d0 d1 hB (by omega));have hsz:s.size = (N + 7) / 8:=by have:=hB.sz;omega
 have HC:=Lib.hid (fun W=>cut80 W s N n n1 (by omega) (by omega) hsz hB.last (by omega));have HQb:=Lib.hid (fun W (hb:Below w.heap.size w W)=>bitsSm (h.below hb) (cutS s n) (n:Int) (by omega) (by omega) (by
  show (((outB s n ((n + 7) / 8)).toArray.size:Nat):Int) = _
  rw [List.size_toArray,outB_len]
  omega) (by omega))
 unfold RQ at HQb;have q1:decide (((0:Int)) < 0) = false:=by decide
 have q2:decide ((n:Int) < 0) = false:=decide_eq_false (by omega);have q3:decide ((N:Int) < 0) = false:=decide_eq_false (by omega);have w1:IntKind.i64.wrap (N:Int) = (N:Int):=IntWalk.i64_in _ (by omega);have q4:decide ((N:Int) < (n:Int)) = false:=decide_eq_false (by omega);have q5:decide (c - σ.Y.length < 2 + ((n:Int) + 63) / 64) = false:=decide_eq_false hR;have q6:decide (512 < (n:Int)) = false:=decide_eq_false (by omega);clear h hv hp hk hw he d0 d1 n1 n2 hB hR hc1 hc2 hY hsz g1 hN;generalize (2 + ((n:Int) + 63) / 64) = m at *;generalize (bitsO (cutS s n) (n:Int) σ).1 = r1 at *
 generalize (bitsO (cutS s n) (n:Int) σ).2 = σ2 at *;generalize cutS s n = sc at *;generalize smallW id = s0 at *;generalize smallW 0 = s1 at *;generalize smallW (N:Int) = s2 at *;generalize (N:Int) = NI at *;generalize (n:Int) = nI at *;go_enter Tryz.func24,Tryz.ntmps24;go_wp2_with fail;refine (HM.out _ (Below.refl _ _)).mono ?_;rintro e w3 ⟨rfl,rfl⟩;go_wp2_with fail;refine (HK.out _ (Below.refl _ _)).mono ?_;rintro e w4 ⟨rfl,hb⟩;have HB4:=Lib.hid hb;clear hb;go_wp2_with fail;refine (HL.out _ HB4.out).mono ?_;rintro e w5 ⟨rfl,hb⟩;have HB5:=Lib.hid (HB4.out.trans (hb.mono HB4.out.size))
 clear hb;go_wp2_with fail;refine (HR.out _ HB5.out).mono ?_;rintro e W4 ⟨rfl,hb⟩;have HBd:=Lib.hid (HB5.out.trans (hb.mono HB5.out.size));clear hb;go_wp2_with fail;refine (HN.out _).mono ?_;rintro e W5 ⟨rfl,rfl⟩;go_wp2_with fail;refine (HO.out _ HBd.out).mono ?_;rintro e w6 ⟨u,rfl,hR,hb⟩;have HB6:=Lib.hid (HBd.out.trans (hb.mono HBd.out.size));have hR6:=hR.more hb.size;obtain ⟨g,o,k,ev,hg,r0,r1',r2⟩:=row3 hR;subst ev;have HT6:=Lib.hid (HT.out _ HB6.out _ hR6);clear hb hR r0 r1' r2 hg hR6;go_wp2_with fail;refine HT6.out.mono ?_;rintro e w7 ⟨rfl,hb⟩
 have HB7:=Lib.hid (HB6.out.trans (hb.mono HB6.out.size));clear hb;go_wp2_with fail;refine (HC.out _).mono ?_;rintro e w8 ⟨rfl,hb⟩;have HB8:=Lib.hid (HB7.out.trans (hb.mono HB7.out.size));clear hb;go_upto_region 15 with (fail);have hst:=heap_alloc_new w8 (.cells #[.string sc,.int .i64 nI] 49);have hb9:Below w8.heap.size w8 (w8.alloc (.cells #[.string sc,.int .i64 nI] 49)):=belowA (Below.refl _ w8) _;generalize hw9:w8.alloc (.cells #[.string sc,.int .i64 nI] 49) = w9 at *;have y0:w9.cell? ⟨w8.heap.size,0,none⟩ = some (.string sc):=(cell_of_blk hst).trans rfl
 have y1:w9.cell? ⟨w8.heap.size,1,none⟩ = some (.int .i64 nI):=(cell_of_blk hst).trans rfl;have HB9:=Lib.hid (HB8.out.trans (hb9.mono HB8.out.size));clear hb9 hw9 hst;go_wp2_with fail;refine (HQb.out _ HB9.out).mono ?_;rintro e w10 ⟨rfl,hq⟩;have HQ:=Lib.hid (StepQ.of_below HB9.out hq);clear hq y0 y1;go_wp2_with fail;go_ret2
 exact ⟨rfl,HQ.out⟩
end
end Go.Proofs.YtpnlnbolhkcnjaaGreat.hp
