/- HsC,HsD. No condition beyond theirs. -/
import Derived.Test.YtpnlnbolhkcnjaaGreatP47
import Derived.Test.YtpnlnbolhkcnjaaGreatP48
import Derived.Test.YtpnlnbolhkcnjaaGreatP01
set_option linter.unusedSimpArgs false
set_option linter.unusedVariables false
set_option maxHeartbeats 4000000
set_option maxRecDepth 100000
namespace Go.Proofs.YtpnlnbolhkcnjaaGreat
namespace hp
open Go.RowKit mem words rec tm
theorem len239 (w:World):Calls Tryz.prog 239 #[.int .u64 0] w fun e w'=>e = .returned (.int .i64 0)∧w = w':=by
 go_enter Tryz.func239,Tryz.ntmps239;go_wp2_with fail;go_ret;exact ⟨by kernel_rfl,rfl⟩
theorem len204 (w:World):Calls Tryz.prog 204 #[.int .u64 0] w fun e w'=>e = .returned (.int .i64 0)∧w = w':=by
 have H:=Lib.hid (fun W=>len239 W);go_enter Tryz.func204,Tryz.ntmps204;go_wp2_with fail;refine (H.out _).mono ?_;rintro e w' ⟨rfl,rfl⟩;go_wp2_with fail;go_ret;exact ⟨rfl,rfl⟩
theorem ins229 (w:World):Calls Tryz.prog 229 #[.slice none 0 0,.int .i64 0,.int .i64 0] w fun e w'=>e = .returned (.tuple #[])∧w = w':=by
 go_enter Tryz.func229,Tryz.ntmps229;go_wp2_with fail;go_loopw [6] (fun a wr=>a = .int .i64 1∧wr = w) (fun _ _=>0)
 case atStart=>exact ⟨rfl,rfl⟩
 case round =>
  obtain ⟨rfl,rfl⟩:=hrel;go_wp2_with fail;go_end0
  exact ⟨rfl,rfl⟩
theorem pdq203 (w:World):Calls Tryz.prog 203 #[.slice none 0 0,.int .i64 0,.int .i64 0,.int .i64 0] w fun e w'=>e = .returned (.tuple #[])∧w = w':=by
 have H:=Lib.hid (fun W=>ins229 W);go_enter Tryz.func203,Tryz.ntmps203;go_wp2_with fail;go_loopw [1,2,3] (fun a b c wr=>a = .int .i64 0∧b = .int .i64 0∧c = .int .i64 0∧wr = w) (fun _ _ _ _=>0)
 case atStart=>exact ⟨rfl,rfl,rfl,rfl⟩
 case round =>
  obtain ⟨rfl,rfl,rfl,rfl⟩:=hrel;go_wp2_with fail;refine (H.out _).mono ?_;rintro e w' ⟨rfl,rfl⟩;go_wp2_with fail;refine bodyPost_ret (results_none rfl _ _ _) rfl ?_;exact ⟨rfl,rfl⟩
theorem sort162 (w:World):Calls Tryz.prog 162 #[.slice none 0 0] w fun e w'=>e = .returned (.tuple #[])∧w = w':=by
 have H:=Lib.hid (fun W=>len204 W);have H2:=Lib.hid (fun W=>pdq203 W);go_enter Tryz.func162,Tryz.ntmps162;go_wp2_with fail;refine (H.out _).mono ?_;rintro e w' ⟨rfl,rfl⟩;go_wp2_with fail;refine (H2.out _).mono ?_;rintro e w' ⟨rfl,rfl⟩;go_wp2_with fail;go_end0
 exact ⟨rfl,rfl⟩
def EmR (bm m:Nat) (_:Nat) (V:World):Prop:=V.cell? ⟨bm,0,none⟩ = some (.map (some m))∧MapR (Value.int .i64) V m []
theorem iter163 (n bm m:Nat) (encs:Nat→Array Value):cl.Gives Fence.wide n Tryz.prog 163 #[.pointer (some ⟨bm,0,none⟩)] encs 0 (EmR bm m) (fun _ _=>True):=by
 intro l J Jx W hRd hJ hJx hY h0;obtain ⟨b0,hm⟩:=hRd 0 W h0;have HJ:=Lib.hid hJ;have H0:=Lib.hid h0;clear hRd hJ hJx hY h0;refine callsIn_wide.2 ?_;go_enter Tryz.func163,Tryz.ntmps163;go_wp2_with (refine wpList_range_r _ rfl _ _ rfl Tryz.underlying118 m [] rfl hm ?_;intro w0 hrg0 hg0 hs0)
 have HJ1:=Lib.hid (HJ.out 0 _ _ H0.out hg0);have hlt:=hm.lt;clear hg0 hs0 H0;go_frame
 go_loopw [3] (fun _ wr=>RangeR (Value.int .i64) wr m W.heap.size [] []∧Hid (J 0 wr)) (fun _ _=>0)
 case atStart=>exact ⟨hrg0,HJ1⟩
 case round =>
  obtain ⟨hrg,hJw⟩:=hrel;go_wp2_with (refine wpList_next_r _ rfl _ rfl m W.heap.size (by omega) [] [] rfl hrg ?_ ?_)
  go_wp2_with fail;refine bodyPost_end (results_none rfl _ _ _) rfl ?_;exact ⟨⟨_,rfl⟩,.inl hJw.out⟩
theorem EmR.below {bm m:Nat} {V V':World} (h:EmR bm m 0 V) (hl:bm < V.heap.size) (hb:Below V.heap.size V V') (i:Nat):EmR bm m i V' :=
 ⟨(World.cell?_of_block (w:=V) (w':=V') (a:=⟨bm,0,none⟩) (hb.block bm hl)).trans h.1,h.2.same (hb.block m h.2.lt)⟩
theorem app202 {w:World} {bm m:Nat} (h:EmR bm m 0 w) (hl:bm < w.heap.size) :
 Calls Tryz.prog 202 #[.slice none 0 0,.func (.func 163) #[] #[.pointer (some ⟨bm,0,none⟩)]] w fun e w'=>e = .returned (.slice none 0 0)∧Below w.heap.size w w':=by
 have hb0:Below w.heap.size w (w.alloc (.cells #[.slice none 0 0] 65)):=belowA (Below.refl _ w) _;have hx:=heap_alloc_new w (.cells #[.slice none 0 0] 65);have hsz:=World.size_alloc w (.cells #[.slice none 0 0] 65);have HE:=Lib.hid (h.below hl hb0 0);generalize hw1:w.alloc (.cells #[.slice none 0 0] 65) = w1 at *;have HX:=Lib.hid hx;have HS:=Lib.hid hsz;have HB:=Lib.hid hb0;have HL:Hid (bm < w1.heap.size):=Lib.hid (by omega);clear h hl hb0 hx hsz;refine (callsIn_wide (n:=5)).1 ?_;refine callsIn_of_wp_marks Tryz.func202 rfl trivial ?_ rfl
 simp only [Tryz.ntmps202,List.size_toArray,List.length_cons,List.length_nil,Nat.reduceAdd,Nat.reduceSub,Array.replicate_succ,Array.replicate_zero,List.push_toArray,List.append_toArray,List.nil_append,List.cons_append]
 gi_wp2
 refine cl.range_seq rfl (by decide) (gf:=163) (lb:=#[.pointer (some ⟨bm,0,none⟩)]) rfl trivial (enters_of Tryz.func163 (by kernel_rfl) rfl) (iter163 4 bm m (fun _=>#[.int .i64 0])) (fun _ _=>trivial) (fun _ _ _ _ _ _=>trivial) (fun i=>rfl) (fun _ V=>Below w1.heap.size w1 V) (fun _ _ _=>False) (ownFrom_below (Nat.le_refl _) (Nat.le_refl _)) (fun c i V V' row hs hg hr=>hs) (fun i V hV=>HE.out.below HL.out hV i) (Below.refl _ _) ?round ?done ?stop;case round =>
  intro l i W V hI hi;exact absurd hi (Nat.not_lt_zero _)
 case done =>
  intro D W hD hI hK;have hcell:W.cell? ⟨w.heap.size,0,none⟩ = some (.slice none 0 0):=(cell_of_blk ((hI.block _ (by have:=HS.out;omega)).trans HX.out)).trans rfl;have HD:=Lib.hid hK;have HBe:Hid (Below w.heap.size w (W.putObj D (.deferred none))):=Lib.hid ((HB.out.trans (hI.mono (by have:=HS.out;omega))).grown (grownBy_putObj' W D (.deferred none)) (Nat.le_trans HB.out.size hI.size) (fun k e=>by cases e;have:=HS.out;omega));clear hI hK hD
  gi_wp2
  refine ⟨by simp,.inl ⟨_,_,rfl,run_takeDeferred HD.out,?_⟩⟩;refine ⟨_,results_tmp rfl _ _ _,rfl,HBe.out⟩
 case stop =>
  intro D c i W hD hI hK;exact hI.elim
theorem coll161 {w:World} {bm m:Nat} (h:EmR bm m 0 w) (hl:bm < w.heap.size) :
 Calls Tryz.prog 161 #[.func (.func 163) #[] #[.pointer (some ⟨bm,0,none⟩)]] w fun e w'=>e = .returned (.slice none 0 0)∧Below w.heap.size w w':=by
 have H:=Lib.hid (app202 h hl);clear h hl;go_enter Tryz.func161,Tryz.ntmps161;go_wp2_with fail;refine H.out.mono ?_;rintro e w' ⟨rfl,hb⟩;have HB:=Lib.hid hb;clear hb;go_wp2_with fail;go_ret;exact ⟨rfl,HB.out⟩
theorem sorted93 {w:World} {bm m:Nat} (h:EmR bm m 0 w) (hl:bm < w.heap.size) :
 Calls Tryz.prog 93 #[.func (.func 163) #[] #[.pointer (some ⟨bm,0,none⟩)]] w fun e w'=>e = .returned (.slice none 0 0)∧Below w.heap.size w w':=by
 have H:=Lib.hid (coll161 h hl);have H2:=Lib.hid (fun W=>sort162 W);clear h hl;go_enter Tryz.func93,Tryz.ntmps93;go_wp2_with fail;refine H.out.mono ?_;rintro e w' ⟨rfl,hb⟩;have HB:=Lib.hid hb;clear hb;go_wp2_with fail;refine (H2.out _).mono ?_;rintro e w' ⟨rfl,rfl⟩;go_wp2_with fail;go_ret;exact ⟨rfl,HB.out⟩
theorem keys94 (w:World) (m:Nat):Calls Tryz.prog 94 #[.map (some m)] w fun e w'=>e = .returned (.func (.func 163) #[] #[.pointer (some ⟨w.heap.size,0,none⟩)])∧w.alloc (.cells #[.map (some m)] 118) = w':=by
 go_enter Tryz.func94,Tryz.ntmps94;go_wp2_with fail;go_ret;exact ⟨rfl,rfl⟩
theorem ids37 {w:World} {b m1 m2:Nat} {gv tot:Int} (h:Sto w b [] gv tot m1 m2):Calls Tryz.prog 37 #[.pointer (some ⟨b,0,none⟩)] w fun e w'=>e = .returned (.slice none 0 0)∧Below w.heap.size w w':=by
 obtain ⟨c0,c1,_,_⟩:=h.cells;have hb0:Below w.heap.size w (w.alloc (.cells #[.map (some m2)] 118)):=belowA (Below.refl _ w) _;have hx:=heap_alloc_new w (.cells #[.map (some m2)] 118);have HM:=Lib.hid (made73 c0);have HK:=Lib.hid (fun W=>keys94 W m2);have HS:=Lib.hid (sorted93 (bm:=w.heap.size) (m:=m2) (w:=w.alloc (.cells #[.map (some m2)] 118)) ⟨(cell_of_blk hx).trans rfl,h.ent.same (hb0.block m2 h.ent.lt)⟩ (by rw [World.size_alloc];omega));have HB:=Lib.hid hb0;clear h hb0 hx;go_enter Tryz.func37,Tryz.ntmps37;go_wp2_with fail;refine HM.out.mono ?_;rintro e w1 ⟨rfl,rfl⟩;go_wp2_with fail
 refine (HK.out _).mono ?_;rintro e w1 ⟨rfl,rfl⟩;go_wp2_with fail;refine HS.out.mono ?_;rintro e w2 ⟨rfl,hb⟩;have HB2:=Lib.hid (HB.out.trans (hb.mono HB.out.size));clear hb;go_wp2_with fail;go_ret;exact ⟨rfl,HB2.out⟩
end hp
namespace hp
open Go.RowKit mem words rec tm Go.ChangeShapes Go.WideShapes Go.ChangeAt Go.Deep
variable {H:Type} {enc:TypeId × Value→H} {W:World}
theorem wf_i64 {n:Int} (h:(Lit.int .i64 n).wf = true):-9223372036854775808 ≤ n∧n ≤ 9223372036854775807:=by
 simp only [Lit.wf,Bool.and_eq_true,decide_eq_true_eq] at h;exact h
theorem rng_lift:∀ {n:Nat} {t:Tm n},rngT n t→rngT (n + 1) (liftT n t)
 | 0,t,_=>(nomatch (show Empty from t))
 | n + 1,t,h=>⟨h.1,fun x hx=>by
  obtain ⟨y,hy,rfl⟩:=List.mem_map.1 (show x ∈ t.items.map (liftT n) from hx)
  exact rng_lift (h.2 y hy)⟩
theorem openR_nine {n:Nat} {cs:List Value} {x:DataW H × List MemPlace} (ih:∀ v x,DataW.trod enc Tryz.prog W 0 (fun _=>true) true n 36 [v] = some x→∃ l:List (Tm n),ItemsAt W W.heap.size n v l∧∀ x ∈ l,rngT n x)
 (h:DataW.trod enc Tryz.prog W 0 (fun _=>true) true (n + 1) 38 cs = some x):∃ (t:Tm (n + 1)) (v:Value),cs = [.int .i64 t.f.kind,.int .i64 t.f.int,.int .i64 t.f.gen,.string t.f.name,.string t.f.func,.int .i64 t.f.arity,v,.string t.f.bytes,.int .i64 t.f.bits]∧ItemsAt W W.heap.size n v t.items∧rngT (n + 1) t:=by
 obtain ⟨ys,n',hn',hy,hlen,hyl,hf⟩:=DataW.trod_struct Tryz.underlying38 h;obtain rfl:n = n':=by omega
 have hl9:cs.length = 9:=hlen
 match cs,hl9 with
 | [b0,b1,b2,b3,b4,b5,b6,b7,b8],_ =>
 have hl:ys.length = 9:=hyl
 match ys,hl with
 | [y0,y1,y2,y3,y4,y5,y6,y7,y8],_ =>
 have t0:DataW.trod enc Tryz.prog W 0 (fun _=>true) true n 3 [b0] = some y0:=hf 0 _ rfl;have t1:DataW.trod enc Tryz.prog W 0 (fun _=>true) true n 2 [b1] = some y1:=hf 1 _ rfl;have t2:DataW.trod enc Tryz.prog W 0 (fun _=>true) true n 2 [b2] = some y2:=hf 2 _ rfl;have t3:DataW.trod enc Tryz.prog W 0 (fun _=>true) true n 9 [b3] = some y3:=hf 3 _ rfl;have t4:DataW.trod enc Tryz.prog W 0 (fun _=>true) true n 9 [b4] = some y4:=hf 4 _ rfl;have t5:DataW.trod enc Tryz.prog W 0 (fun _=>true) true n 3 [b5] = some y5:=hf 5 _ rfl
 have t6:DataW.trod enc Tryz.prog W 0 (fun _=>true) true n 36 [b6] = some y6:=hf 6 _ rfl;have t7:DataW.trod enc Tryz.prog W 0 (fun _=>true) true n 9 [b7] = some y7:=hf 7 _ rfl;have t8:DataW.trod enc Tryz.prog W 0 (fun _=>true) true n 3 [b8] = some y8:=hf 8 _ rfl;obtain ⟨l,hl,hlr⟩:=ih b6 y6 t6;obtain ⟨k0,e0,_⟩:=DataW.trod_int Tryz.underlying3 t0;obtain ⟨k1,e1,_,hk1⟩:=DataW.trod_int Tryz.underlying2 t1;obtain ⟨k2,e2,_⟩:=DataW.trod_int Tryz.underlying2 t2;obtain ⟨k5,e5,_⟩:=DataW.trod_int Tryz.underlying3 t5;obtain ⟨k8,e8,_⟩:=DataW.trod_int Tryz.underlying3 t8
 obtain ⟨s3,e3,_⟩:=DataW.trod_string Tryz.underlying9 t3;obtain ⟨s4,e4,_⟩:=DataW.trod_string Tryz.underlying9 t4;obtain ⟨s7,e7,_⟩:=DataW.trod_string Tryz.underlying9 t7;simp only [List.cons.injEq,and_true] at e0 e1 e2 e3 e4 e5 e7 e8;subst e0;subst e1;subst e2;subst e3;subst e4;subst e5;subst e7;subst e8;exact ⟨Tm.mk ⟨k0,k1,k2,s3,s4,k5,s7,k8⟩ l,b6,rfl,hl,wf_i64 hk1,hlr⟩
theorem openR_items:∀ (n:Nat) (v:Value) (x:DataW H × List MemPlace),DataW.trod enc Tryz.prog W 0 (fun _=>true) true n 36 [v] = some x→∃ l:List (Tm n),ItemsAt W W.heap.size n v l∧∀ x ∈ l,rngT n x:=by
 intro n
 induction n using Nat.strongRecOn with
 | ind n ih =>
  intro v x h
  rcases DataW.trod_slice Tryz.underlying36 h with ⟨hcs,hx⟩ | ⟨a,len,cap,elems,rest,m,hm,hcs,hx,hb,hlc,hcm,hel,hat,_,_⟩
  ·simp only [List.cons.injEq,and_true] at hcs;subst hcs;exact ⟨[],ItemsAt.nil_any (Nat.zero_le _),fun x hx=>by simp at hx⟩
  ·simp only [List.cons.injEq,and_true] at hcs;subst hcs;subst hm;have hC:Tryz.prog.cellsOf 38 = 9:=by kernel_rfl
   cases m with
   | zero =>
    cases len with
    | zero=>exact ⟨[],ItemsAt.nil_any hcm,fun x hx=>by simp at hx⟩
    | succ len =>
     have h0:=hat 0 (by omega);have e0:elems[0]? = some (elems[0]'(by omega)):=List.getElem?_eq_getElem (by omega);rw [e0] at h0;cases hc:W.cells? 0 (a.add (0 * Tryz.prog.cellsOf 38)) (Tryz.prog.cellsOf 38) with
     | none=>rw [hc] at h0;simp at h0
     | some cs=>rw [hc] at h0;simp [DataW.trod] at h0
   | succ m =>
    have hex:∀ i,i < len→∃ t:Tm (m + 1),∃ u,(∀ k,k < 9→W.cell? (a.add (i * 9 + k)) = [Value.int .i64 t.f.kind,.int .i64 t.f.int,.int .i64 t.f.gen,.string t.f.name,.string t.f.func,.int .i64 t.f.arity,u,.string t.f.bytes,.int .i64 t.f.bits][k]?)∧ItemsAt W W.heap.size m u t.items∧rngT (m + 1) t:=by
     intro i hi;have h0:=hat i hi;have e0:elems[i]? = some (elems[i]'(by omega)):=List.getElem?_eq_getElem (by omega);rw [e0] at h0;cases hc:W.cells? 0 (a.add (i * Tryz.prog.cellsOf 38)) (Tryz.prog.cellsOf 38) with
     | none=>rw [hc] at h0;simp at h0
     | some cs =>
      rw [hc] at h0;simp only [Option.bind_some] at h0;obtain ⟨t,u,rfl,hI,hR⟩:=openR_nine (fun v x=>ih m (by omega) v x) h0;refine ⟨t,u,fun k hk=>?_,hI,hR⟩;obtain ⟨_,_,hcell⟩:=World.cells?_some hc;have:=hcell k (by rw [hC];exact hk);rw [hC,Go.Deep.add_add] at this;exact this
    obtain ⟨l,hl,hP⟩:=list_ofT _ len hex;obtain ⟨g,o,pth⟩:=a
    suffices hs:ItemsAt W W.heap.size (m + 1) (.slice (some ⟨g,o,pth⟩) len cap) l from ⟨_,hs.lift,fun x hx=>by
     obtain ⟨y,hy,rfl⟩:=List.mem_map.1 hx
     obtain ⟨q,hq,rfl⟩:=List.getElem_of_mem hy
     obtain ⟨u,_,_,hr⟩:=hP q hq
     exact rng_lift hr⟩
    refine ⟨some ⟨g,o,pth⟩,cap,by rw [hl],by omega,hcm,fun hne=>?_⟩;have hpos:0 < l.length:=List.length_pos_iff.2 hne;obtain ⟨u0,hc0,_⟩:=hP 0 hpos;have x0:=hc0 0 (by omega);have hpth:pth = none:=by
     cases pth with
     | none=>rfl
     | some q =>
      exfalso;have x1:W.cell? ⟨g,o,some q⟩ = some _:=x0;unfold World.cell? at x1
      split at x1 <;> simp at x1
    subst hpth
    refine ⟨g,o,rfl,?_,fun j hj=>?_⟩
    ·have:=World.block_lt_of_cell? W _ x0;rw [Addr.add_lit] at this;exact this
    ·obtain ⟨u,hc,hI,_⟩:=hP j hj;have hcc:=fun k hk=>by have:=hc k hk;rwa [Addr.add_lit] at this
     refine ⟨u,⟨?_,?_,?_,?_,?_,?_,?_,?_,?_⟩,hI⟩
     ·exact hcc 0 (by omega)
     ·exact hcc 1 (by omega)
     ·exact hcc 2 (by omega)
     ·exact hcc 3 (by omega)
     ·exact hcc 4 (by omega)
     ·exact hcc 5 (by omega)
     ·exact hcc 6 (by omega)
     ·exact hcc 7 (by omega)
     ·exact hcc 8 (by omega)
theorem openR_term {b:Nat} {v:Value} {d:DataW H} {ps:List MemPlace} (hv:Value.okWide Tryz.prog W .any b 38 v) (h:DataW.Trod enc Tryz.prog W 0 (fun _=>true) true 38 v d ps):∃ n,∃ (t:Tm (n + 1)) (u:Value),v = aggV t.f u∧ItemsAt W W.heap.size n u t.items∧rngT (n + 1) t:=by
 obtain ⟨cs,rfl,hcs⟩:=okWide_struct Tryz.underlying38 hv;obtain ⟨fuel,hf⟩:=h;cases fuel with
 | zero=>simp [DataW.trod] at hf
 | succ n =>
  have hf':DataW.trod enc Tryz.prog W 0 (fun _=>true) true (n + 1) 38 cs.toList = some (d,ps):=by simpa [Value.cells] using hf
  obtain ⟨t,u,e,hI,hR⟩:=openR_nine (fun v x=>openR_items n v x) hf';refine ⟨n,t,u,?_,hI,hR⟩;unfold aggV;congr 1;exact Array.ext' e
end hp
end Go.Proofs.YtpnlnbolhkcnjaaGreat
