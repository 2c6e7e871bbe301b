/- HrY,HrZ,HsA. No condition beyond theirs. -/
import Derived.Test.YtpnlnbolhkcnjaaGreatP40
set_option linter.unusedSimpArgs false
set_option linter.unusedVariables false
set_option maxHeartbeats 4000000
set_option maxRecDepth 100000
namespace Go.Proofs.YtpnlnbolhkcnjaaGreat.hp
open Go.RowKit mem words rec tm
theorem tm_of_rd {σ:St} {n:Nat} {v:Int} {t:Tm (n + 1)} (h:RdT σ (n + 1) v t):cl.Tm (Kb σ) v:=by
 rcases h with ⟨ws,hK,_⟩ | ⟨_,h2,hL⟩
 ·rcases hK with ⟨_,h,_⟩ | ⟨_,_,h,_⟩ | ⟨_,h,_⟩ | ⟨x,h,_⟩
  ·exact .inl h
  ·exact .inr (.inl h)
  ·exact .inr (.inr (.inl h))
  ·exact .inr (.inr (.inr ⟨x,h⟩))
 ·match hl:t.items,h2,hL with
  | a :: b :: l,_,hL =>
   obtain ⟨_,h,tl,hp,_⟩:=hL;exact .inr (.inr (.inr ⟨_,hp⟩))
theorem ao_small {v:Int} (h:soOk v = true):aoOk v = false:=by
 simp only [soOk,decide_eq_true_eq] at h;simp only [aoOk,decide_eq_false_iff_not];omega
theorem ao_ptr {v:Int} (h:pOk v = true):aoOk v = false:=by
 have:=(cl.pOk_iff v).1 h;simp only [aoOk,decide_eq_false_iff_not];omega
theorem ao_kind {σ:St} {n:Nat} {v:Int} {t:Tm (n + 1)} (h:RdT σ (n + 1) v t) (ha:aoOk v = true):t.f.kind = 2:=by
 rcases h with ⟨ws,hK,_⟩ | ⟨_,h2,hL⟩
 ·rcases hK with ⟨_,h,_⟩ | ⟨_,_,h,e⟩ | ⟨_,h,_⟩ | ⟨x,h,_⟩
  ·rw [ao_small h] at ha;exact Bool.noConfusion ha
  ·rw [e]
  ·subst h;exact absurd ha (by decide)
  ·rw [ao_ptr h.1] at ha;exact Bool.noConfusion ha
 ·match hl:t.items,h2,hL with
  | a :: b :: l,_,hL =>
   obtain ⟨_,h,tl,hp,_⟩:=hL;rw [ao_ptr hp.1] at ha;exact Bool.noConfusion ha
theorem putI_lt {N:List ByteArray} {s:ByteArray} (hv:names.vName s = true):0 ≤ names.putI N s∧names.putI N s < ((names.putL N s).length:Int):=by
 unfold names.putI names.putL;rw [if_pos hv,if_pos hv];cases hi:names.ix N s with
 | some i =>
  have:=(names.ix_lt hi).1;simp only [Option.getD_some];omega
 | none =>
  simp only [Option.getD_none,List.length_append,List.length_singleton];omega
theorem ao_lt {n:Nat} {t:Tm (n + 1)} {σ:St} (hf:formedT t = true) (hk:t.f.kind = 2) (hn:σ.N.length ≤ 200000):aoN (putO (n + 1) t σ).1 < (putO (n + 1) t σ).2.N.length:=by
 unfold formedT at hf;rw [Bool.and_eq_true] at hf;have hok:=hf.1;unfold okT at hok;rw [Bool.and_eq_true,Bool.and_eq_true] at hok;obtain ⟨hb1,hb2⟩:=bare_f hok.2.2;have hfok:=hok.2.1;rw [hk] at hb2;have hl:t.items = []:=List.eq_nil_of_length_eq_zero (by simpa using hb2);have e:putO (n + 1) t σ = atomO t.f.name σ:=by
  show kindO t.f (itemsO (putO n) t.items σ).1 (itemsO (putO n) t.items σ).2 = _;rw [hl];unfold kindO;rw [if_neg (by omega),if_pos hk];rfl
 have hv:names.vName t.f.name = true:=by
  unfold okF at hfok;rw [hk] at hfok;simp only [Int.reduceEq,if_true,if_false,or_self] at hfok;exact hfok
 rw [e];obtain ⟨p0,p1⟩:=putI_lt (N:=σ.N) hv;obtain ⟨_,p2⟩:=putI_bd σ.N t.f.name;have e1:(atomO t.f.name σ).1 = 16 * names.putI σ.N t.f.name + 7:=by
  show atomW (names.putI σ.N t.f.name) = _;unfold atomW;rw [if_pos (by simp [idxOk];omega)]
 have e2:aoOk (atomO t.f.name σ).1 = true:=by
  rw [e1];simp only [aoOk,decide_eq_true_eq];omega
 have e3:aoN (atomO t.f.name σ).1 = names.putI σ.N t.f.name:=by
  unfold aoN;rw [if_pos e2,e1];omega
 rw [e3];exact p1
section
variable {w:World} {B z a b:Nat} {c:Int} {σ:St} {S:Nat→Prop}
theorem madeQ (h:HQ w B z a b c σ S):Calls Tryz.prog 66 #[.pointer (some ⟨z,0,none⟩)] w fun e w'=>e = .returned (.bool true)∧w = w':=by
 obtain ⟨vY,vF,m,p,cc,m1,m2,h⟩:=h;exact made66 h.ha
theorem termQ (h:HQ w B z a b c σ S) (hY:σ.Y.length ≤ 100000) {v:Int} (v0:0 ≤ v) (v1:v ≤ 18446744073709551615) :
 Calls Tryz.prog 134 #[.pointer (some ⟨z,0,none⟩),.int .u64 v] w fun e w'=>(∃ t,e = .returned (.bool t)∧(t = true↔cl.Tm (Kb σ) v))∧Below w.heap.size w w' :=
 (cl.term115 w w.heap.size z _ _ (heapQ h hY) v v0 v1).mono fun e w' hh=>by
   obtain ⟨n,rfl,t,rfl,ht⟩:=hh;exact ⟨⟨t,rfl,ht⟩,⟨rfl,rfl,rfl,Nat.le_refl _,fun _ _=>rfl⟩⟩
theorem lenQ (h:HQ w B z a b c σ S):Calls Tryz.prog 36 #[.pointer (some ⟨a,0,none⟩)] w fun e w'=>e = .returned (.int .i64 σ.N.length)∧w = w':=by
 obtain ⟨vY,vF,m,p,cc,m1,m2,h⟩:=h;exact names.Len w a σ.N m p cc h.tab
theorem cell3Q (h:HQ w B z a b c σ S):w.cell? ⟨z,6,none⟩ = some (.pointer (some ⟨a,0,none⟩)):=by
 obtain ⟨vY,vF,m,p,cc,m1,m2,h⟩:=h;exact (cell_of_blk h.ha.blk).trans rfl
theorem isQ (h:HQ w B z a b c σ S) (hY:σ.Y.length ≤ 100000) {v:Int} (v0:0 ≤ v) (v1:v ≤ 18446744073709551615) (hT:cl.Tm (Kb σ) v) (hA:aoOk v = true→aoN v < σ.N.length) :
 Calls Tryz.prog 85 #[.pointer (some ⟨z,0,none⟩),.int .u64 v] w fun e w'=>e = .returned (.bool true)∧Below w.heap.size w w':=by
 have HM:=Lib.hid (madeQ h)
 have HT:Hid (Calls Tryz.prog 134 #[.pointer (some ⟨z,0,none⟩),.int .u64 v] w fun e w'=>e = .returned (.bool true)∧Below w.heap.size w w') :=
  Lib.hid ((termQ h hY v0 v1).mono fun e w' hh=>by
   obtain ⟨⟨t,rfl,ht⟩,hb⟩:=hh
   exact ⟨by rw [ht.2 hT],hb⟩)
 have HA':=Lib.hid (fun W=>words.AtomOf v v0 v1 W);have HL:Hid (∀ W,Below w.heap.size w W→Calls Tryz.prog 36 #[.pointer (some ⟨a,0,none⟩)] W fun e w'=>e = .returned (.int .i64 σ.N.length)∧W = w'):=Lib.hid (fun W hb=>lenQ (h.below hb));have H3:Hid (∀ W,Below w.heap.size w W→W.cell? ⟨z,6,none⟩ = some (.pointer (some ⟨a,0,none⟩))):=Lib.hid (fun W hb=>cell3Q (h.below hb));clear h hY v0 v1 hT;cases ha:aoOk v with
 | false =>
  rw [ha] at HA';generalize aoN v = x at *;clear hA ha;go_enter Tryz.func85,Tryz.ntmps85;go_wp2_with fail;refine HM.out.mono ?_;rintro e w1 ⟨rfl,rfl⟩;go_wp2_with fail;refine HT.out.mono ?_;rintro e w1 ⟨rfl,hb⟩;have HB:=Lib.hid hb;clear hb;go_wp2_with fail;refine (HA'.out _).mono ?_;rintro e w2 ⟨rfl,rfl⟩;go_wp2_with fail;go_ret;exact ⟨rfl,HB.out⟩
 | true =>
  rw [ha] at HA';have q:decide (aoN v < (σ.N.length:Int)) = true:=decide_eq_true (hA ha);generalize aoN v = x at *;generalize (σ.N.length:Int) = y at *;clear hA ha;go_enter Tryz.func85,Tryz.ntmps85;go_wp2_with fail;refine HM.out.mono ?_;rintro e w1 ⟨rfl,rfl⟩;go_wp2_with fail;refine HT.out.mono ?_;rintro e w1 ⟨rfl,hb⟩;have HB:=Lib.hid hb;have c3:=H3.out w1 hb;have HL1:=Lib.hid (HL.out w1 hb);clear hb;go_wp2_with fail;refine (HA'.out _).mono ?_;rintro e w2 ⟨rfl,rfl⟩;go_wp2_with fail;refine HL1.out.mono ?_;rintro e w2 ⟨rfl,rfl⟩;go_wp2_with fail;go_ret;exact ⟨rfl,HB.out⟩
theorem is0 (h:HQ w B z a b c σ S) (hY:σ.Y.length ≤ 100000) :
 Calls Tryz.prog 85 #[.pointer (some ⟨z,0,none⟩),.int .u64 0] w fun e w'=>e = .returned (.bool false)∧Below w.heap.size w w':=by
 have HM:=Lib.hid (madeQ h)
 have HT:Hid (Calls Tryz.prog 134 #[.pointer (some ⟨z,0,none⟩),.int .u64 0] w fun e w'=>e = .returned (.bool false)∧Below w.heap.size w w') :=
  Lib.hid ((termQ h hY (v:=0) (by omega) (by omega)).mono fun e w' hh=>by
   obtain ⟨⟨t,rfl,ht⟩,hb⟩:=hh
   refine ⟨?_,hb⟩
   cases t with
   | false=>rfl
   | true=>exact absurd rfl (fun q:(0:Int) % 4 = 0=>cl.tm_tag (ht.1 rfl) q))
 clear h hY;go_enter Tryz.func85,Tryz.ntmps85;go_wp2_with fail;refine HM.out.mono ?_;rintro e w1 ⟨rfl,rfl⟩;go_wp2_with fail;refine HT.out.mono ?_;rintro e w1 ⟨rfl,hb⟩;have HB:=Lib.hid hb;clear hb;go_wp2_with fail;go_ret;exact ⟨rfl,HB.out⟩
def GetT {n:Nat} (t:Tm (n + 1)) (w:World) (e:Ending) (w':World):Prop:=∃ u,e = .returned (.tuple #[aggV t.f u,.int .i64 0])∧ItemsIn w' (fun g=>w.heap.size ≤ g∧g < w'.heap.size) n u t.items∧Below w.heap.size w w'
theorem get29y (h:HQ w B z a b c σ S) (hY:σ.Y.length ≤ 100000) (hN:σ.N.length ≤ 500000) {n:Nat} {v:Int} {t:Tm (n + 1)} (hv:Wok v) (hs:nodesT t ≤ 100000) (hR:RdT σ (n + 1) v t) (hA:aoOk v = true→aoN v < σ.N.length) :
 Calls Tryz.prog 29 #[.pointer (some ⟨z,0,none⟩),.int .u64 v] w (GetT t w):=by
 have hb0:Below w.heap.size w (w.alloc (.cells zC 38)):=belowA (Below.refl _ w) _;have HX:=Lib.hid (heap_alloc_new w (.cells zC 38));have HS:=Lib.hid (World.size_alloc w (.cells zC 38));have HM:=Lib.hid (madeQ (h.below hb0));have HI:=Lib.hid (isQ (h.below hb0) hY hv.1 hv.2.1 (tm_of_rd hR) hA);have HG:=Lib.hid (fun W (hb:Below w.heap.size w W)=>getAll n W B z a b c σ S v t (h.below hb) hY hN hv hs hR);have HB0:=Lib.hid hb0;clear h hb0 hY hN hv hs hR hA;go_enter Tryz.func29,Tryz.ntmps29;go_wp2_with fail;refine HM.out.mono ?_;rintro e w1 ⟨rfl,rfl⟩;go_wp2_with fail;refine HI.out.mono ?_
 rintro e w1 ⟨rfl,hb⟩;have hs1:=hb.size;have HX1:=Lib.hid ((hb.block w.heap.size (by rw [HS.out];omega)).trans HX.out);have HK:Hid (w.heap.size < w1.heap.size):=Lib.hid (by rw [HS.out] at hs1;omega);have HB1:=Lib.hid (HB0.out.trans (hb.mono HB0.out.size));clear hs1 hb;go_wp2_with fail;refine (HG.out _ HB1.out).mono ?_;rintro e w2 ⟨u,rfl,hO,hb⟩;obtain ⟨q,cp,rfl,_⟩:=itemsIn_shape hO;have HX2:=Lib.hid ((hb.block w.heap.size HK.out).trans HX1.out);have HB2:=Lib.hid (HB1.out.trans (hb.mono HB1.out.size));have HO:=Lib.hid hO;have HSz:=Lib.hid hb.size;clear hb hO
 go_wp2_with (refine wpList_store_row rfl 38 (.tmp 4) (.tmp 17) rfl w.heap.size (C9f t.f (.slice q t.items.length cp)) rfl rfl 38 zC HX2.out i38 rfl (nine1 _ rfl) ?_)
 go_wp2_with fail
 refine bodyPost_ret (v:=.tuple #[aggV t.f (.slice q t.items.length cp),.int .i64 0]) ?_ rfl ⟨_,rfl,?_,below_setRow HB2.out (Nat.le_refl _) _⟩
 ·exact ret_row1 (p:=4) (q:=5) (r:=.int .i64 0) rfl _ rfl rfl (cs:=(C9f t.f (.slice q t.items.length cp)).toList) rfl (range_blk (setRow_heap _ _ _ _ _ _ HX2.out))
 ·have:=HK.out;have:=HSz.out;refine HO.out.mono (fun g hg=>setRow_other _ _ g _ (by omega)) (fun g hg=>⟨by omega,by simpa using hg.2⟩)
theorem get29z (h:HQ w B z a b c σ S) (hY:σ.Y.length ≤ 100000) :
 Calls Tryz.prog 29 #[.pointer (some ⟨z,0,none⟩),.int .u64 0] w fun e w'=>e = .returned (.tuple #[flatT 0 0,.int .i64 6])∧Below w.heap.size w w':=by
 have hb0:Below w.heap.size w (w.alloc (.cells zC 38)):=belowA (Below.refl _ w) _;have HX:=Lib.hid (heap_alloc_new w (.cells zC 38));have HS:=Lib.hid (World.size_alloc w (.cells zC 38));have HM:=Lib.hid (madeQ (h.below hb0));have HI:=Lib.hid (is0 (h.below hb0) hY);have HB0:=Lib.hid hb0;clear h hb0 hY;go_enter Tryz.func29,Tryz.ntmps29;go_wp2_with fail;refine HM.out.mono ?_;rintro e w1 ⟨rfl,rfl⟩;go_wp2_with fail;refine HI.out.mono ?_;rintro e w1 ⟨rfl,hb⟩;have hs1:=hb.size;have HX1:=Lib.hid ((hb.block w.heap.size (by rw [HS.out];omega)).trans HX.out)
 have HB1:=Lib.hid (HB0.out.trans (hb.mono HB0.out.size));clear hs1 hb;go_wp2_with (first | (refine wpList_store_row rfl 38 (.tmp 4) (.tmp 14) rfl w.heap.size (flatC 0 0) rfl rfl 38 zC HX1.out i38 rfl (one9 0 0) ?_))
 go_wp2_with fail;refine bodyPost_ret (v:=.tuple #[flatT 0 0,.int .i64 6]) ?_ rfl ⟨rfl,below_setRow HB1.out (Nat.le_refl _) _⟩;exact ret_row1 (p:=4) (q:=5) (r:=.int .i64 6) rfl _ rfl rfl (cs:=flatL 0 0) rfl (range_blk (setRow_heap _ _ _ _ _ _ HX1.out))
end
def NamP (w:World) (e:Ending) (w':World):Prop:=∃ a m,e = .returned (.pointer (some ⟨a,0,none⟩))∧names.Tab w' a [] m none 0∧w.heap.size ≤ a∧w.heap.size ≤ m∧Below w.heap.size w w'
theorem namN (w:World):Calls Tryz.prog 14 #[] w (NamP w) :=
 (names.New w).mono fun e w' hh=>by
   obtain ⟨rfl,hT,ht,hs⟩:=hh;exact ⟨_,_,rfl,hT,by omega,by omega,⟨ht.os,ht.tape,ht.output,ht.size,fun k hk=>ht.block k hk (fun h=>h)⟩⟩
def BloP (w:World) (e:Ending) (w':World):Prop:=∃ b m1 m2,e = .returned (.pointer (some ⟨b,0,none⟩))∧Sto w' b [] 0 0 m1 m2∧w.heap.size ≤ b∧w.heap.size ≤ m1∧w.heap.size ≤ m2∧Below w.heap.size w w'
theorem bloN (w:World):Calls Tryz.prog 15 #[] w (BloP w):=by
 have hmm:=@run_makeMap Tryz.prog;have HB:=Lib.hid (fun o o' o''=>belowA (belowA (belowA (Below.refl _ w) o) o') o'');go_enter Tryz.func15,Tryz.ntmps15;go_wp2_with fail;go_ret
 refine ⟨_,w.heap.size,w.heap.size + 1,rfl,⟨?_,?_,?_,?_,?_,?_⟩,?_,Nat.le_refl _,by omega,HB.out _ _ _⟩
 ·have:=heap_alloc_new ((w.alloc (.map #[] 0)).alloc (.map #[] 0)) (.cells #[.map (some w.heap.size),.map (some (w.heap.size + 1)),.int .i64 0,.int .i64 0] 120);simpa [World.size_alloc] using this
 ·have h1:=MapR.made Value.string w;have b1:=belowA (belowA (Below.refl _ (w.alloc (.map #[] 0))) (.map #[] 0)) (.cells #[.map (some w.heap.size),.map (some (w.heap.size + 1)),.int .i64 0,.int .i64 0] 120);exact h1.same (by simpa [World.size_alloc] using b1.block w.heap.size (by rw [World.size_alloc];omega))
 ·have h1:=MapR.made (Value.int .i64) (w.alloc (.map #[] 0));have b1:=belowA (Below.refl _ ((w.alloc (.map #[] 0)).alloc (.map #[] 0))) (.cells #[.map (some w.heap.size),.map (some (w.heap.size + 1)),.int .i64 0,.int .i64 0] 120);rw [World.size_alloc] at h1;exact h1.same (by simpa [World.size_alloc] using b1.block (w.heap.size + 1) (by rw [World.size_alloc,World.size_alloc];omega))
 ·omega
 ·omega
 ·omega
 ·omega
abbrev σ0:St:=⟨[],[],[],0,0⟩
theorem startQ {w1 w2 w3:World} {B a m b m1 m2 z:Nat} {c:Int} (hT:names.Tab w1 a [] m none 0) (ha:B ≤ a) (hm:B ≤ m) (hb1:Below w1.heap.size w1 w2) (hS:Sto w2 b [] 0 0 m1 m2) (hb:w1.heap.size ≤ b) (hm1:w1.heap.size ≤ m1) (hm2:w1.heap.size ≤ m2)
 (hb2:Below w2.heap.size w2 w3) (hA:HA w3 w2.heap.size z a b c (.slice none 0 0) (.slice none 0 0) [] []):∃ S,HQ w3 B z a b c σ0 S∧∀ k,S k→B ≤ k:=by
 have hT1:=hT.lt;have ha1:a < w1.heap.size:=hT1 a (.inl rfl);have hmw:m < w1.heap.size:=hT1 m (.inr (.inl rfl));have hs1:=hb1.size;have hs2:=hb2.size;have hb':b < w2.heap.size:=hS.lt b (.inl rfl);have hm1':m1 < w2.heap.size:=hS.lt m1 (.inr (.inl rfl));have hm2':m2 < w2.heap.size:=hS.lt m2 (.inr (.inr rfl));have hz:=hA.hz;have fo:∀ k,names.foot a m none k→k = a∨k = m:=by
  rintro k (h | h | ⟨p,hp,_⟩)
  ·exact .inl h
  ·exact .inr h
  ·exact absurd hp (by simp)
 have hbk:∀ k,HB z (.slice none 0 0) (.slice none 0 0) k→k = z:=by
  rintro k (h | h | h)
  ·exact h
  ·simp [Value.ownBlock] at h
  ·simp [Value.ownBlock] at h
 refine ⟨fun k=>HB z (.slice none 0 0) (.slice none 0 0) k∨names.foot a m none k∨sfoot b m1 m2 k,⟨.slice none 0 0,.slice none 0 0,m,none,0,m1,m2,⟨?_,?_,?_,fun k=>Iff.rfl,?_,?_,?_,?_,?_,?_⟩⟩,?_⟩
 ·exact ⟨hA.blk,RecOwn.nil _ _ _,RecOwn.nil _ _ _,by omega⟩
 ·exact hT.same fun k hk=>(hb2.block k (by have:=hT1 k hk;omega)).trans (hb1.block k (hT1 k hk))
 ·exact hS.below hb2
 ·intro k h1 h2;have:=hbk k h1;have:=fo k h2;omega
 ·intro k h1 h2;have:=hbk k h1;rcases h2 with h | h | h <;> omega
 ·intro k h1 h2;have:=fo k h1;rcases h2 with h | h | h <;> omega
 ·rintro k (h | h | h)
  ·have:=hbk k h;omega
  ·have:=fo k h;omega
  ·rcases h with h | h | h <;> omega
 ·exact ⟨List.nodup_nil,List.nodup_nil,fun e he=>by simp at he⟩
 ·intro o ho;simp at ho
 ·rintro k (h | h | h)
  ·have:=hbk k h;omega
  ·have:=fo k h;omega
  ·rcases h with h | h | h <;> omega
def RNeedS (n:Nat):Prop:=∀ (w:World) (B:Nat) (v:Value) (t:Tm (n + 1)),B ≤ w.heap.size→ItemsAt w B n v t.items→formedT t = true→rngT (n + 1) t→nodesT t ≤ 100000 →
 Calls Tryz.prog 88 #[aggV t.f v] w fun e w'=>e = .returned (.int .i64 (needT (n + 1) t))∧Below w.heap.size w w'
theorem rneedEl {n:Nat} (ih:∀ m,n = m + 1→RNeedS m) (w:World) (B:Nat) (p:Option Addr) (len c:Nat) (l:List (Tm n)) (hlen:l.length = len) (hB:B ≤ w.heap.size) (hI:ItemsAt w B n (.slice p len c) l) (hf:formedL n l = true) (hr:∀ x ∈ l,rngT n x) (hs:nodesL n l ≤ 100000) :
 ∃ ws ps:Nat→Int,(∀ j,j < len→∃ g o f' q m c',p = some ⟨g,o,none⟩∧g < w.heap.size∧Cells w g (o + j * 9) f' (.slice q m c')∧∀ W,Below w.heap.size w W→Calls Tryz.prog 88 #[aggV f' (.slice q m c')] W fun e w'=>e = .returned (.int .i64 (ws j))∧Below W.heap.size W w') ∧
  ps 0 = 0∧(∀ j,j < len→ps (j + 1) = ps j + ws j)∧ps len = ndL n l∧(∀ j,j ≤ len→0 ≤ ps j∧ps j ≤ 1300000)∧(∀ j,j < len→0 ≤ ws j∧ws j ≤ 1300000):=by
 cases n with
 | zero =>
  obtain rfl:=Tm.nil0 l;subst hlen;exact ⟨fun _=>0,fun _=>0,fun j hj=>absurd hj (by simp),rfl,fun _ _=>rfl,rfl,fun _ _=>⟨by simp,by simp⟩,fun _ _=>⟨by simp,by simp⟩⟩
 | succ n =>
  subst hlen;obtain ⟨ws,hws⟩:∃ ws:Nat→Int,∀ j,(h:j < l.length)→ws j = needT (n + 1) l[j]:=⟨fun j=>if h:j < l.length then needT (n + 1) l[j] else 0,fun j h=>dif_pos h⟩;have hfj:∀ j,(h:j < l.length)→formedT l[j] = true:=fun j h=>by
   unfold formedL at hf;rw [List.all_eq_true] at hf;exact hf l[j] (List.getElem_mem h)
  have hnj:∀ j,(h:j < l.length)→nodesT l[j] ≤ 100000:=fun j h=>by
   have:=nodes_mem h;omega
  refine ⟨ws,fun j=>ndL (n + 1) (l.take j),fun j hj=>?_,?_,fun j hj=>?_,?_,fun j hj=>?_,fun j hj=>?_⟩
  ·obtain ⟨g,o,c2,e,_,_,hg,hx⟩:=hI.at_ (by intro e;subst e;simp at hj);obtain ⟨u,hC,hI2⟩:=hx j hj;simp only [Value.slice.injEq] at e;obtain ⟨q,c',rfl,_,_⟩:=hI2.shape;refine ⟨g,o,l[j].f,q,_,c',e.1,by omega,hC,fun W hb=>?_⟩;rw [hws j hj];exact ih n rfl W B _ l[j] (Nat.le_trans hB hb.size) (hI2.below hb hB) (hfj j hj) (hr _ (List.getElem_mem hj)) (hnj j hj)
  ·simp [ndL]
  ·rw [hws j hj];show ndL (n + 1) (l.take (j + 1)) = ndL (n + 1) (l.take j) + needT (n + 1) l[j];rw [List.take_succ_eq_append_getElem hj,ndL_append,ndL_cons,ndL_nil];omega
  ·show ndL (n + 1) (l.take l.length) = _;rw [List.take_of_length_le (Nat.le_refl _)]
  ·have hfl:formedL (n + 1) (l.take j) = true:=formed_yes (fun k hk=>by
    rw [List.getElem_take];exact hfj k (by simp at hk;omega))
   obtain ⟨a,b⟩:=ndL_bd (need_bd n) _ hfl;refine ⟨a,?_⟩;have hle:nodesL (n + 1) (l.take j) ≤ nodesL (n + 1) l:=by
    have e:nodesL (n + 1) l = nodesL (n + 1) (l.take j ++ l.drop j):=by rw [List.take_append_drop]
    rw [e,nodesL_append];omega
   show ndL (n + 1) (l.take j) ≤ _;omega
  ·rw [hws j hj];obtain ⟨a,b⟩:=need_bd n l[j] (hfj j hj);have:=hnj j hj;omega
theorem rneedStep {n:Nat} (ih:∀ m,n = m + 1→RNeedS m):RNeedS n:=by
 intro w B v t hB hI hft hrt hs;obtain ⟨p,c,rfl,hlc,hcm⟩:=hI.shape;unfold maxLen at hcm;generalize hlen:t.items.length = len at *;have hft':=hft;unfold formedT at hft';rw [Bool.and_eq_true] at hft';have hnT:nodesL n t.items ≤ 100000:=by unfold nodesT at hs;omega
 obtain ⟨ws,ps,hEl,hp0,hps,hpl,hpb,hwb⟩:=rneedEl ih w B p len c t.items hlen hB hI hft'.2 hrt.2 hnT;obtain ⟨hz1,hz2,hz9,hz10⟩:=needF_bd t hft'.1;have hnl:=nodes_len n t.items;rw [hlen] at hz1 hz2 hz9 hnl;have hlb:(len:Int) ≤ 100000:=by omega
 have hW:needT (n + 1) t = needF t.f len + ps len:=by rw [need_eq,hlen,hpl]
 have hri:=hrt.1;clear ih hI hft hft' hs hnT hnl hpl hcm hz1 hz2 hrt;generalize needT (n + 1) t = W at *;generalize hf:t.f = f at *;clear hf hlen;obtain ⟨k,i,gg,nm,fn,ar,by_,bt⟩:=f;unfold rngF at hri;unfold aggV at *;dsimp only at *;have HEl:=Lib.hid hEl;have HP0:=Lib.hid hp0;have HPs:=Lib.hid hps;have HPb:=Lib.hid hpb;have HWb:=Lib.hid hwb;have HW:=Lib.hid hW;have HSm:=Lib.hid (fun W=>words.RSmall i hri.1 hri.2 W);clear hEl hp0 hps hpb hW hwb hri
 by_cases h1:k = 1
 ·subst h1
  by_cases hq:smallOk i = true
  ·rw [hq] at HSm;go_enter Tryz.func88,Tryz.ntmps88;go_wp2_with fail;refine (HSm.out _).mono ?_;rintro e w' ⟨rfl,rfl⟩;go_wp2_with fail;obtain ⟨W0,hW0⟩:∃ x,x = w.alloc (.cells #[.int .i64 1,.int .i64 i,.int .i64 gg,.string nm,.string fn,.int .i64 ar,.slice p len c,.string by_,.int .i64 bt] 38):=⟨_,rfl⟩;have hN0:Nine W0 w.heap.size ⟨1,i,gg,nm,fn,ar,by_,bt⟩ (.slice p len c):=by rw [hW0];exact nine_of (MapKept.heap_alloc w _).1
   have hbw:Below w.heap.size w W0:=by rw [hW0];exact (Below.refl _ _).alloc (Nat.le_refl _) _
   have hsz:W0.heap.size = w.heap.size + 1:=by rw [hW0];simp
   rw [← hW0];clear hW0;have HSZ:=Lib.hid hsz;clear hsz;have HN0:=Lib.hid hN0;clear hN0;go_loopw [3,6] (fun a s wr=>∃ (j:Nat) (x:Int),a = .int .i64 x∧s = .int .i64 j∧j ≤ len∧Hid (x = (0:Int) + ps j)∧Below W0.heap.size W0 wr) (fun _ s _=>len - (intOf s).toNat)
   case atStart=>exact ⟨0,(0:Int),rfl,rfl,by omega,Lib.hid (by rw [HP0.out];omega),Below.refl _ _⟩
   case round =>
    obtain ⟨j,x,rfl,rfl,hj,HX,hbr⟩:=hrel;have hbx:Below w.heap.size w wr:=hbw.trans (hbr.mono hbw.size);have hN:=HN0.out.below hbr (by have:=HSZ.out;omega);obtain ⟨x0,x1,x2,x3,x4,x5,x6,x7,x8,xz⟩:=hN;dsimp only at x0 x1 x2 x3 x4 x5 x6 x7 x8
    by_cases hlt:j < len
    ·obtain ⟨g0,o0,f',q,m,c',rfl,hg0,hC,hCall⟩:=HEl.out j hlt;have hC:=hC.same (hbx.block g0 hg0);obtain ⟨y0,y1,y2,y3,y4,y5,y6,y7,y8⟩:=hC;have HC:=Lib.hid (fun V (hb:Below wr.heap.size wr V)=>hCall V (hbx.trans (hb.mono hbx.size)));clear hCall;unfold aggV at HC;have hxj:=HX.out;have hpj:=HPb.out j (by omega);have hwj:=HWb.out j hlt;have hwr:IntKind.i64.wrap (x + ws j) = x + ws j:=IntWalk.i64_in _ (by omega);have HX2:Hid (x + ws j = (0:Int) + ps (j + 1)):=Lib.hid (by rw [HPs.out j hlt];omega);clear hxj hpj hwj;have hi1:IntKind.i64.wrap ((j:Int) + 1) = ((j + 1:Nat):Int):=by
      rw [IntWalk.i64_in _ (by omega)]
      push_cast
      rfl
     have qlt:decide ((j:Int) < (len:Int)) = true:=decide_eq_true (by omega);go_wp2_with fail;refine (HC.out _ (Below.refl _ wr)).mono ?_;rintro e w3 ⟨rfl,hb3⟩;have hb4:=hbr.trans (hb3.mono hbr.size);go_wp2_with fail;go_roundw
     case rel=>exact ⟨j + 1,x + ws j,rfl,by go_num,by omega,HX2,hb4⟩
     case measure=>simp [intOf];omega
    ·obtain rfl:j = len:=by omega
     have qlt:decide ((j:Int) < (j:Int)) = false:=decide_eq_false (by omega);have hfin:x = W:=by rw [HX.out,HW.out];unfold needF;dsimp only;rw [if_pos rfl,if_pos hq]
     have HFin:=Lib.hid hfin;clear hfin;go_wp2_with fail;go_ret;exact ⟨tm.ret1 HFin.out,hbw.trans (hbr.mono hbw.size)⟩
  ·have hq':smallOk i = false:=by simpa using hq
   rw [hq'] at HSm;go_enter Tryz.func88,Tryz.ntmps88;go_wp2_with fail;refine (HSm.out _).mono ?_;rintro e w' ⟨rfl,rfl⟩;go_wp2_with fail;obtain ⟨W0,hW0⟩:∃ x,x = w.alloc (.cells #[.int .i64 1,.int .i64 i,.int .i64 gg,.string nm,.string fn,.int .i64 ar,.slice p len c,.string by_,.int .i64 bt] 38):=⟨_,rfl⟩;have hN0:Nine W0 w.heap.size ⟨1,i,gg,nm,fn,ar,by_,bt⟩ (.slice p len c):=by rw [hW0];exact nine_of (MapKept.heap_alloc w _).1
   have hbw:Below w.heap.size w W0:=by rw [hW0];exact (Below.refl _ _).alloc (Nat.le_refl _) _
   have hsz:W0.heap.size = w.heap.size + 1:=by rw [hW0];simp
   rw [← hW0];clear hW0;have HSZ:=Lib.hid hsz;clear hsz;have HN0:=Lib.hid hN0;clear hN0;go_loopw [3,6] (fun a s wr=>∃ (j:Nat) (x:Int),a = .int .i64 x∧s = .int .i64 j∧j ≤ len∧Hid (x = (2:Int) + ps j)∧Below W0.heap.size W0 wr) (fun _ s _=>len - (intOf s).toNat)
   case atStart=>exact ⟨0,(2:Int),rfl,rfl,by omega,Lib.hid (by rw [HP0.out];omega),Below.refl _ _⟩
   case round =>
    obtain ⟨j,x,rfl,rfl,hj,HX,hbr⟩:=hrel;have hbx:Below w.heap.size w wr:=hbw.trans (hbr.mono hbw.size);have hN:=HN0.out.below hbr (by have:=HSZ.out;omega);obtain ⟨x0,x1,x2,x3,x4,x5,x6,x7,x8,xz⟩:=hN;dsimp only at x0 x1 x2 x3 x4 x5 x6 x7 x8
    by_cases hlt:j < len
    ·obtain ⟨g0,o0,f',q,m,c',rfl,hg0,hC,hCall⟩:=HEl.out j hlt;have hC:=hC.same (hbx.block g0 hg0);obtain ⟨y0,y1,y2,y3,y4,y5,y6,y7,y8⟩:=hC;have HC:=Lib.hid (fun V (hb:Below wr.heap.size wr V)=>hCall V (hbx.trans (hb.mono hbx.size)));clear hCall;unfold aggV at HC;have hxj:=HX.out;have hpj:=HPb.out j (by omega);have hwj:=HWb.out j hlt;have hwr:IntKind.i64.wrap (x + ws j) = x + ws j:=IntWalk.i64_in _ (by omega);have HX2:Hid (x + ws j = (2:Int) + ps (j + 1)):=Lib.hid (by rw [HPs.out j hlt];omega);clear hxj hpj hwj;have hi1:IntKind.i64.wrap ((j:Int) + 1) = ((j + 1:Nat):Int):=by
      rw [IntWalk.i64_in _ (by omega)]
      push_cast
      rfl
     have qlt:decide ((j:Int) < (len:Int)) = true:=decide_eq_true (by omega);go_wp2_with fail;refine (HC.out _ (Below.refl _ wr)).mono ?_;rintro e w3 ⟨rfl,hb3⟩;have hb4:=hbr.trans (hb3.mono hbr.size);go_wp2_with fail;go_roundw
     case rel=>exact ⟨j + 1,x + ws j,rfl,by go_num,by omega,HX2,hb4⟩
     case measure=>simp [intOf];omega
    ·obtain rfl:j = len:=by omega
     have qlt:decide ((j:Int) < (j:Int)) = false:=decide_eq_false (by omega);have hfin:x = W:=by rw [HX.out,HW.out];unfold needF;dsimp only;rw [if_pos rfl,if_neg hq]
     have HFin:=Lib.hid hfin;clear hfin;go_wp2_with fail;go_ret;exact ⟨tm.ret1 HFin.out,hbw.trans (hbr.mono hbw.size)⟩
 by_cases h9:k = 9
 ·subst h9;have hl2:=hz9 rfl;have hw9:IntKind.i64.wrap ((len:Int) - 1) = (len:Int) - 1:=IntWalk.i64_in _ (by omega);have hw9':IntKind.i64.wrap (2 * ((len:Int) - 1)) = 2 * ((len:Int) - 1):=IntWalk.i64_in _ (by omega);go_enter Tryz.func88,Tryz.ntmps88;go_wp2_with fail;obtain ⟨W0,hW0⟩:∃ x,x = w.alloc (.cells #[.int .i64 9,.int .i64 i,.int .i64 gg,.string nm,.string fn,.int .i64 ar,.slice p len c,.string by_,.int .i64 bt] 38):=⟨_,rfl⟩;have hN0:Nine W0 w.heap.size ⟨9,i,gg,nm,fn,ar,by_,bt⟩ (.slice p len c):=by rw [hW0];exact nine_of (MapKept.heap_alloc w _).1
  have hbw:Below w.heap.size w W0:=by rw [hW0];exact (Below.refl _ _).alloc (Nat.le_refl _) _
  have hsz:W0.heap.size = w.heap.size + 1:=by rw [hW0];simp
  rw [← hW0];clear hW0;have HSZ:=Lib.hid hsz;clear hsz;have HN0:=Lib.hid hN0;clear hN0;go_loopw [3,6] (fun a s wr=>∃ (j:Nat) (x:Int),a = .int .i64 x∧s = .int .i64 j∧j ≤ len∧Hid (x = (2 * ((len:Int) - 1)) + ps j)∧Below W0.heap.size W0 wr) (fun _ s _=>len - (intOf s).toNat)
  case atStart=>exact ⟨0,(2 * ((len:Int) - 1)),rfl,rfl,by omega,Lib.hid (by rw [HP0.out];omega),Below.refl _ _⟩
  case round =>
   obtain ⟨j,x,rfl,rfl,hj,HX,hbr⟩:=hrel;have hbx:Below w.heap.size w wr:=hbw.trans (hbr.mono hbw.size);have hN:=HN0.out.below hbr (by have:=HSZ.out;omega);obtain ⟨x0,x1,x2,x3,x4,x5,x6,x7,x8,xz⟩:=hN;dsimp only at x0 x1 x2 x3 x4 x5 x6 x7 x8
   by_cases hlt:j < len
   ·obtain ⟨g0,o0,f',q,m,c',rfl,hg0,hC,hCall⟩:=HEl.out j hlt;have hC:=hC.same (hbx.block g0 hg0);obtain ⟨y0,y1,y2,y3,y4,y5,y6,y7,y8⟩:=hC;have HC:=Lib.hid (fun V (hb:Below wr.heap.size wr V)=>hCall V (hbx.trans (hb.mono hbx.size)));clear hCall;unfold aggV at HC;have hxj:=HX.out;have hpj:=HPb.out j (by omega);have hwj:=HWb.out j hlt;have hwr:IntKind.i64.wrap (x + ws j) = x + ws j:=IntWalk.i64_in _ (by omega);have HX2:Hid (x + ws j = (2 * ((len:Int) - 1)) + ps (j + 1)):=Lib.hid (by rw [HPs.out j hlt];omega);clear hxj hpj hwj;have hi1:IntKind.i64.wrap ((j:Int) + 1) = ((j + 1:Nat):Int):=by
     rw [IntWalk.i64_in _ (by omega)]
     push_cast
     rfl
    have qlt:decide ((j:Int) < (len:Int)) = true:=decide_eq_true (by omega);go_wp2_with fail;refine (HC.out _ (Below.refl _ wr)).mono ?_;rintro e w3 ⟨rfl,hb3⟩;have hb4:=hbr.trans (hb3.mono hbr.size);go_wp2_with fail;go_roundw
    case rel=>exact ⟨j + 1,x + ws j,rfl,by go_num,by omega,HX2,hb4⟩
    case measure=>simp [intOf];omega
   ·obtain rfl:j = len:=by omega
    have qlt:decide ((j:Int) < (j:Int)) = false:=decide_eq_false (by omega);have hfin:x = W:=by rw [HX.out,HW.out];unfold needF;dsimp only;rw [if_neg (by decide),if_pos rfl]
    have HFin:=Lib.hid hfin;clear hfin;go_wp2_with fail;go_ret;exact ⟨tm.ret1 HFin.out,hbw.trans (hbr.mono hbw.size)⟩
 by_cases h7:k = 7
 ·subst h7;have hw9:IntKind.i64.wrap (1 + (len:Int)) = 1 + (len:Int):=IntWalk.i64_in _ (by omega);go_enter Tryz.func88,Tryz.ntmps88;go_wp2_with fail;obtain ⟨W0,hW0⟩:∃ x,x = w.alloc (.cells #[.int .i64 7,.int .i64 i,.int .i64 gg,.string nm,.string fn,.int .i64 ar,.slice p len c,.string by_,.int .i64 bt] 38):=⟨_,rfl⟩;have hN0:Nine W0 w.heap.size ⟨7,i,gg,nm,fn,ar,by_,bt⟩ (.slice p len c):=by rw [hW0];exact nine_of (MapKept.heap_alloc w _).1
  have hbw:Below w.heap.size w W0:=by rw [hW0];exact (Below.refl _ _).alloc (Nat.le_refl _) _
  have hsz:W0.heap.size = w.heap.size + 1:=by rw [hW0];simp
  rw [← hW0];clear hW0;have HSZ:=Lib.hid hsz;clear hsz;have HN0:=Lib.hid hN0;clear hN0;go_loopw [3,6] (fun a s wr=>∃ (j:Nat) (x:Int),a = .int .i64 x∧s = .int .i64 j∧j ≤ len∧Hid (x = (1 + (len:Int)) + ps j)∧Below W0.heap.size W0 wr) (fun _ s _=>len - (intOf s).toNat)
  case atStart=>exact ⟨0,(1 + (len:Int)),rfl,rfl,by omega,Lib.hid (by rw [HP0.out];omega),Below.refl _ _⟩
  case round =>
   obtain ⟨j,x,rfl,rfl,hj,HX,hbr⟩:=hrel;have hbx:Below w.heap.size w wr:=hbw.trans (hbr.mono hbw.size);have hN:=HN0.out.below hbr (by have:=HSZ.out;omega);obtain ⟨x0,x1,x2,x3,x4,x5,x6,x7,x8,xz⟩:=hN;dsimp only at x0 x1 x2 x3 x4 x5 x6 x7 x8
   by_cases hlt:j < len
   ·obtain ⟨g0,o0,f',q,m,c',rfl,hg0,hC,hCall⟩:=HEl.out j hlt;have hC:=hC.same (hbx.block g0 hg0);obtain ⟨y0,y1,y2,y3,y4,y5,y6,y7,y8⟩:=hC;have HC:=Lib.hid (fun V (hb:Below wr.heap.size wr V)=>hCall V (hbx.trans (hb.mono hbx.size)));clear hCall;unfold aggV at HC;have hxj:=HX.out;have hpj:=HPb.out j (by omega);have hwj:=HWb.out j hlt;have hwr:IntKind.i64.wrap (x + ws j) = x + ws j:=IntWalk.i64_in _ (by omega);have HX2:Hid (x + ws j = (1 + (len:Int)) + ps (j + 1)):=Lib.hid (by rw [HPs.out j hlt];omega);clear hxj hpj hwj;have hi1:IntKind.i64.wrap ((j:Int) + 1) = ((j + 1:Nat):Int):=by
     rw [IntWalk.i64_in _ (by omega)]
     push_cast
     rfl
    have qlt:decide ((j:Int) < (len:Int)) = true:=decide_eq_true (by omega);go_wp2_with fail;refine (HC.out _ (Below.refl _ wr)).mono ?_;rintro e w3 ⟨rfl,hb3⟩;have hb4:=hbr.trans (hb3.mono hbr.size);go_wp2_with fail;go_roundw
    case rel=>exact ⟨j + 1,x + ws j,rfl,by go_num,by omega,HX2,hb4⟩
    case measure=>simp [intOf];omega
   ·obtain rfl:j = len:=by omega
    have qlt:decide ((j:Int) < (j:Int)) = false:=decide_eq_false (by omega);have hfin:x = W:=by rw [HX.out,HW.out];unfold needF;dsimp only;rw [if_neg (by decide),if_neg (by decide),if_pos rfl]
    have HFin:=Lib.hid hfin;clear hfin;go_wp2_with fail;go_ret;exact ⟨tm.ret1 HFin.out,hbw.trans (hbr.mono hbw.size)⟩
 by_cases h4:k = 4
 ·subst h4;have hw9:IntKind.i64.wrap (5 + (len:Int)) = 5 + (len:Int):=IntWalk.i64_in _ (by omega);go_enter Tryz.func88,Tryz.ntmps88;go_wp2_with fail;obtain ⟨W0,hW0⟩:∃ x,x = w.alloc (.cells #[.int .i64 4,.int .i64 i,.int .i64 gg,.string nm,.string fn,.int .i64 ar,.slice p len c,.string by_,.int .i64 bt] 38):=⟨_,rfl⟩;have hN0:Nine W0 w.heap.size ⟨4,i,gg,nm,fn,ar,by_,bt⟩ (.slice p len c):=by rw [hW0];exact nine_of (MapKept.heap_alloc w _).1
  have hbw:Below w.heap.size w W0:=by rw [hW0];exact (Below.refl _ _).alloc (Nat.le_refl _) _
  have hsz:W0.heap.size = w.heap.size + 1:=by rw [hW0];simp
  rw [← hW0];clear hW0;have HSZ:=Lib.hid hsz;clear hsz;have HN0:=Lib.hid hN0;clear hN0;go_loopw [3,6] (fun a s wr=>∃ (j:Nat) (x:Int),a = .int .i64 x∧s = .int .i64 j∧j ≤ len∧Hid (x = (5 + (len:Int)) + ps j)∧Below W0.heap.size W0 wr) (fun _ s _=>len - (intOf s).toNat)
  case atStart=>exact ⟨0,(5 + (len:Int)),rfl,rfl,by omega,Lib.hid (by rw [HP0.out];omega),Below.refl _ _⟩
  case round =>
   obtain ⟨j,x,rfl,rfl,hj,HX,hbr⟩:=hrel;have hbx:Below w.heap.size w wr:=hbw.trans (hbr.mono hbw.size);have hN:=HN0.out.below hbr (by have:=HSZ.out;omega);obtain ⟨x0,x1,x2,x3,x4,x5,x6,x7,x8,xz⟩:=hN;dsimp only at x0 x1 x2 x3 x4 x5 x6 x7 x8
   by_cases hlt:j < len
   ·obtain ⟨g0,o0,f',q,m,c',rfl,hg0,hC,hCall⟩:=HEl.out j hlt;have hC:=hC.same (hbx.block g0 hg0);obtain ⟨y0,y1,y2,y3,y4,y5,y6,y7,y8⟩:=hC;have HC:=Lib.hid (fun V (hb:Below wr.heap.size wr V)=>hCall V (hbx.trans (hb.mono hbx.size)));clear hCall;unfold aggV at HC;have hxj:=HX.out;have hpj:=HPb.out j (by omega);have hwj:=HWb.out j hlt;have hwr:IntKind.i64.wrap (x + ws j) = x + ws j:=IntWalk.i64_in _ (by omega);have HX2:Hid (x + ws j = (5 + (len:Int)) + ps (j + 1)):=Lib.hid (by rw [HPs.out j hlt];omega);clear hxj hpj hwj;have hi1:IntKind.i64.wrap ((j:Int) + 1) = ((j + 1:Nat):Int):=by
     rw [IntWalk.i64_in _ (by omega)]
     push_cast
     rfl
    have qlt:decide ((j:Int) < (len:Int)) = true:=decide_eq_true (by omega);go_wp2_with fail;refine (HC.out _ (Below.refl _ wr)).mono ?_;rintro e w3 ⟨rfl,hb3⟩;have hb4:=hbr.trans (hb3.mono hbr.size);go_wp2_with fail;go_roundw
    case rel=>exact ⟨j + 1,x + ws j,rfl,by go_num,by omega,HX2,hb4⟩
    case measure=>simp [intOf];omega
   ·obtain rfl:j = len:=by omega
    have qlt:decide ((j:Int) < (j:Int)) = false:=decide_eq_false (by omega);have hfin:x = W:=by rw [HX.out,HW.out];unfold needF;dsimp only;rw [if_neg (by decide),if_neg (by decide),if_neg (by decide),if_pos rfl]
    have HFin:=Lib.hid hfin;clear hfin;go_wp2_with fail;go_ret;exact ⟨tm.ret1 HFin.out,hbw.trans (hbr.mono hbw.size)⟩
 by_cases h5:k = 5
 ·subst h5;go_enter Tryz.func88,Tryz.ntmps88;go_wp2_with fail;obtain ⟨W0,hW0⟩:∃ x,x = w.alloc (.cells #[.int .i64 5,.int .i64 i,.int .i64 gg,.string nm,.string fn,.int .i64 ar,.slice p len c,.string by_,.int .i64 bt] 38):=⟨_,rfl⟩;have hN0:Nine W0 w.heap.size ⟨5,i,gg,nm,fn,ar,by_,bt⟩ (.slice p len c):=by rw [hW0];exact nine_of (MapKept.heap_alloc w _).1
  have hbw:Below w.heap.size w W0:=by rw [hW0];exact (Below.refl _ _).alloc (Nat.le_refl _) _
  have hsz:W0.heap.size = w.heap.size + 1:=by rw [hW0];simp
  rw [← hW0];clear hW0;have HSZ:=Lib.hid hsz;clear hsz;have HN0:=Lib.hid hN0;clear hN0;go_loopw [3,6] (fun a s wr=>∃ (j:Nat) (x:Int),a = .int .i64 x∧s = .int .i64 j∧j ≤ len∧Hid (x = (4:Int) + ps j)∧Below W0.heap.size W0 wr) (fun _ s _=>len - (intOf s).toNat)
  case atStart=>exact ⟨0,(4:Int),rfl,rfl,by omega,Lib.hid (by rw [HP0.out];omega),Below.refl _ _⟩
  case round =>
   obtain ⟨j,x,rfl,rfl,hj,HX,hbr⟩:=hrel;have hbx:Below w.heap.size w wr:=hbw.trans (hbr.mono hbw.size);have hN:=HN0.out.below hbr (by have:=HSZ.out;omega);obtain ⟨x0,x1,x2,x3,x4,x5,x6,x7,x8,xz⟩:=hN;dsimp only at x0 x1 x2 x3 x4 x5 x6 x7 x8
   by_cases hlt:j < len
   ·obtain ⟨g0,o0,f',q,m,c',rfl,hg0,hC,hCall⟩:=HEl.out j hlt;have hC:=hC.same (hbx.block g0 hg0);obtain ⟨y0,y1,y2,y3,y4,y5,y6,y7,y8⟩:=hC;have HC:=Lib.hid (fun V (hb:Below wr.heap.size wr V)=>hCall V (hbx.trans (hb.mono hbx.size)));clear hCall;unfold aggV at HC;have hxj:=HX.out;have hpj:=HPb.out j (by omega);have hwj:=HWb.out j hlt;have hwr:IntKind.i64.wrap (x + ws j) = x + ws j:=IntWalk.i64_in _ (by omega);have HX2:Hid (x + ws j = (4:Int) + ps (j + 1)):=Lib.hid (by rw [HPs.out j hlt];omega);clear hxj hpj hwj;have hi1:IntKind.i64.wrap ((j:Int) + 1) = ((j + 1:Nat):Int):=by
     rw [IntWalk.i64_in _ (by omega)]
     push_cast
     rfl
    have qlt:decide ((j:Int) < (len:Int)) = true:=decide_eq_true (by omega);go_wp2_with fail;refine (HC.out _ (Below.refl _ wr)).mono ?_;rintro e w3 ⟨rfl,hb3⟩;have hb4:=hbr.trans (hb3.mono hbr.size);go_wp2_with fail;go_roundw
    case rel=>exact ⟨j + 1,x + ws j,rfl,by go_num,by omega,HX2,hb4⟩
    case measure=>simp [intOf];omega
   ·obtain rfl:j = len:=by omega
    have qlt:decide ((j:Int) < (j:Int)) = false:=decide_eq_false (by omega);have hfin:x = W:=by rw [HX.out,HW.out];unfold needF;dsimp only;rw [if_neg (by decide),if_neg (by decide),if_neg (by decide),if_neg (by decide),if_pos (by decide)]
    have HFin:=Lib.hid hfin;clear hfin;go_wp2_with fail;go_ret;exact ⟨tm.ret1 HFin.out,hbw.trans (hbr.mono hbw.size)⟩
 by_cases h6:k = 6
 ·subst h6;go_enter Tryz.func88,Tryz.ntmps88;go_wp2_with fail;obtain ⟨W0,hW0⟩:∃ x,x = w.alloc (.cells #[.int .i64 6,.int .i64 i,.int .i64 gg,.string nm,.string fn,.int .i64 ar,.slice p len c,.string by_,.int .i64 bt] 38):=⟨_,rfl⟩;have hN0:Nine W0 w.heap.size ⟨6,i,gg,nm,fn,ar,by_,bt⟩ (.slice p len c):=by rw [hW0];exact nine_of (MapKept.heap_alloc w _).1
  have hbw:Below w.heap.size w W0:=by rw [hW0];exact (Below.refl _ _).alloc (Nat.le_refl _) _
  have hsz:W0.heap.size = w.heap.size + 1:=by rw [hW0];simp
  rw [← hW0];clear hW0;have HSZ:=Lib.hid hsz;clear hsz;have HN0:=Lib.hid hN0;clear hN0;go_loopw [3,6] (fun a s wr=>∃ (j:Nat) (x:Int),a = .int .i64 x∧s = .int .i64 j∧j ≤ len∧Hid (x = (4:Int) + ps j)∧Below W0.heap.size W0 wr) (fun _ s _=>len - (intOf s).toNat)
  case atStart=>exact ⟨0,(4:Int),rfl,rfl,by omega,Lib.hid (by rw [HP0.out];omega),Below.refl _ _⟩
  case round =>
   obtain ⟨j,x,rfl,rfl,hj,HX,hbr⟩:=hrel;have hbx:Below w.heap.size w wr:=hbw.trans (hbr.mono hbw.size);have hN:=HN0.out.below hbr (by have:=HSZ.out;omega);obtain ⟨x0,x1,x2,x3,x4,x5,x6,x7,x8,xz⟩:=hN;dsimp only at x0 x1 x2 x3 x4 x5 x6 x7 x8
   by_cases hlt:j < len
   ·obtain ⟨g0,o0,f',q,m,c',rfl,hg0,hC,hCall⟩:=HEl.out j hlt;have hC:=hC.same (hbx.block g0 hg0);obtain ⟨y0,y1,y2,y3,y4,y5,y6,y7,y8⟩:=hC;have HC:=Lib.hid (fun V (hb:Below wr.heap.size wr V)=>hCall V (hbx.trans (hb.mono hbx.size)));clear hCall;unfold aggV at HC;have hxj:=HX.out;have hpj:=HPb.out j (by omega);have hwj:=HWb.out j hlt;have hwr:IntKind.i64.wrap (x + ws j) = x + ws j:=IntWalk.i64_in _ (by omega);have HX2:Hid (x + ws j = (4:Int) + ps (j + 1)):=Lib.hid (by rw [HPs.out j hlt];omega);clear hxj hpj hwj;have hi1:IntKind.i64.wrap ((j:Int) + 1) = ((j + 1:Nat):Int):=by
     rw [IntWalk.i64_in _ (by omega)]
     push_cast
     rfl
    have qlt:decide ((j:Int) < (len:Int)) = true:=decide_eq_true (by omega);go_wp2_with fail;refine (HC.out _ (Below.refl _ wr)).mono ?_;rintro e w3 ⟨rfl,hb3⟩;have hb4:=hbr.trans (hb3.mono hbr.size);go_wp2_with fail;go_roundw
    case rel=>exact ⟨j + 1,x + ws j,rfl,by go_num,by omega,HX2,hb4⟩
    case measure=>simp [intOf];omega
   ·obtain rfl:j = len:=by omega
    have qlt:decide ((j:Int) < (j:Int)) = false:=decide_eq_false (by omega);have hfin:x = W:=by rw [HX.out,HW.out];unfold needF;dsimp only;rw [if_neg (by decide),if_neg (by decide),if_neg (by decide),if_neg (by decide),if_pos (by decide)]
    have HFin:=Lib.hid hfin;clear hfin;go_wp2_with fail;go_ret;exact ⟨tm.ret1 HFin.out,hbw.trans (hbr.mono hbw.size)⟩
 by_cases h3:k = 3
 ·subst h3;go_enter Tryz.func88,Tryz.ntmps88;go_wp2_with fail;obtain ⟨W0,hW0⟩:∃ x,x = w.alloc (.cells #[.int .i64 3,.int .i64 i,.int .i64 gg,.string nm,.string fn,.int .i64 ar,.slice p len c,.string by_,.int .i64 bt] 38):=⟨_,rfl⟩;have hN0:Nine W0 w.heap.size ⟨3,i,gg,nm,fn,ar,by_,bt⟩ (.slice p len c):=by rw [hW0];exact nine_of (MapKept.heap_alloc w _).1
  have hbw:Below w.heap.size w W0:=by rw [hW0];exact (Below.refl _ _).alloc (Nat.le_refl _) _
  have hsz:W0.heap.size = w.heap.size + 1:=by rw [hW0];simp
  rw [← hW0];clear hW0;have HSZ:=Lib.hid hsz;clear hsz;have HN0:=Lib.hid hN0;clear hN0;go_loopw [3,6] (fun a s wr=>∃ (j:Nat) (x:Int),a = .int .i64 x∧s = .int .i64 j∧j ≤ len∧Hid (x = (4:Int) + ps j)∧Below W0.heap.size W0 wr) (fun _ s _=>len - (intOf s).toNat)
  case atStart=>exact ⟨0,(4:Int),rfl,rfl,by omega,Lib.hid (by rw [HP0.out];omega),Below.refl _ _⟩
  case round =>
   obtain ⟨j,x,rfl,rfl,hj,HX,hbr⟩:=hrel;have hbx:Below w.heap.size w wr:=hbw.trans (hbr.mono hbw.size);have hN:=HN0.out.below hbr (by have:=HSZ.out;omega);obtain ⟨x0,x1,x2,x3,x4,x5,x6,x7,x8,xz⟩:=hN;dsimp only at x0 x1 x2 x3 x4 x5 x6 x7 x8
   by_cases hlt:j < len
   ·obtain ⟨g0,o0,f',q,m,c',rfl,hg0,hC,hCall⟩:=HEl.out j hlt;have hC:=hC.same (hbx.block g0 hg0);obtain ⟨y0,y1,y2,y3,y4,y5,y6,y7,y8⟩:=hC;have HC:=Lib.hid (fun V (hb:Below wr.heap.size wr V)=>hCall V (hbx.trans (hb.mono hbx.size)));clear hCall;unfold aggV at HC;have hxj:=HX.out;have hpj:=HPb.out j (by omega);have hwj:=HWb.out j hlt;have hwr:IntKind.i64.wrap (x + ws j) = x + ws j:=IntWalk.i64_in _ (by omega);have HX2:Hid (x + ws j = (4:Int) + ps (j + 1)):=Lib.hid (by rw [HPs.out j hlt];omega);clear hxj hpj hwj;have hi1:IntKind.i64.wrap ((j:Int) + 1) = ((j + 1:Nat):Int):=by
     rw [IntWalk.i64_in _ (by omega)]
     push_cast
     rfl
    have qlt:decide ((j:Int) < (len:Int)) = true:=decide_eq_true (by omega);go_wp2_with fail;refine (HC.out _ (Below.refl _ wr)).mono ?_;rintro e w3 ⟨rfl,hb3⟩;have hb4:=hbr.trans (hb3.mono hbr.size);go_wp2_with fail;go_roundw
    case rel=>exact ⟨j + 1,x + ws j,rfl,by go_num,by omega,HX2,hb4⟩
    case measure=>simp [intOf];omega
   ·obtain rfl:j = len:=by omega
    have qlt:decide ((j:Int) < (j:Int)) = false:=decide_eq_false (by omega);have hfin:x = W:=by rw [HX.out,HW.out];unfold needF;dsimp only;rw [if_neg (by decide),if_neg (by decide),if_neg (by decide),if_neg (by decide),if_pos (by decide)]
    have HFin:=Lib.hid hfin;clear hfin;go_wp2_with fail;go_ret;exact ⟨tm.ret1 HFin.out,hbw.trans (hbr.mono hbw.size)⟩
 by_cases h10:k = 10
 ·subst h10;obtain ⟨hb1,hb2⟩:=hz10 rfl;have e1:IntKind.i64.wrap (bt + 63) = bt + 63:=IntWalk.i64_in _ (by omega);have e2:IntKind.i64.wrap ((bt + 63) / 64) = (bt + 63) / 64:=IntWalk.i64_in _ (by omega);have e3:IntKind.i64.wrap (2 + (bt + 63) / 64) = 2 + (bt + 63) / 64:=IntWalk.i64_in _ (by omega);have e4:Int.tdiv (bt + 63) 64 = (bt + 63) / 64:=Int.tdiv_eq_ediv_of_nonneg (by omega)
  by_cases hq:512 < bt
  ·have qb:decide (bt ≤ 512) = false:=decide_eq_false (by omega);go_enter Tryz.func88,Tryz.ntmps88;go_wp2_with fail;obtain ⟨W0,hW0⟩:∃ x,x = w.alloc (.cells #[.int .i64 10,.int .i64 i,.int .i64 gg,.string nm,.string fn,.int .i64 ar,.slice p len c,.string by_,.int .i64 bt] 38):=⟨_,rfl⟩;have hN0:Nine W0 w.heap.size ⟨10,i,gg,nm,fn,ar,by_,bt⟩ (.slice p len c):=by rw [hW0];exact nine_of (MapKept.heap_alloc w _).1
   have hbw:Below w.heap.size w W0:=by rw [hW0];exact (Below.refl _ _).alloc (Nat.le_refl _) _
   have hsz:W0.heap.size = w.heap.size + 1:=by rw [hW0];simp
   rw [← hW0];clear hW0;have HSZ:=Lib.hid hsz;clear hsz;have HN0:=Lib.hid hN0;clear hN0;go_loopw [3,6] (fun a s wr=>∃ (j:Nat) (x:Int),a = .int .i64 x∧s = .int .i64 j∧j ≤ len∧Hid (x = (4:Int) + ps j)∧Below W0.heap.size W0 wr) (fun _ s _=>len - (intOf s).toNat)
   case atStart=>exact ⟨0,(4:Int),rfl,rfl,by omega,Lib.hid (by rw [HP0.out];omega),Below.refl _ _⟩
   case round =>
    obtain ⟨j,x,rfl,rfl,hj,HX,hbr⟩:=hrel;have hbx:Below w.heap.size w wr:=hbw.trans (hbr.mono hbw.size);have hN:=HN0.out.below hbr (by have:=HSZ.out;omega);obtain ⟨x0,x1,x2,x3,x4,x5,x6,x7,x8,xz⟩:=hN;dsimp only at x0 x1 x2 x3 x4 x5 x6 x7 x8
    by_cases hlt:j < len
    ·obtain ⟨g0,o0,f',q,m,c',rfl,hg0,hC,hCall⟩:=HEl.out j hlt;have hC:=hC.same (hbx.block g0 hg0);obtain ⟨y0,y1,y2,y3,y4,y5,y6,y7,y8⟩:=hC;have HC:=Lib.hid (fun V (hb:Below wr.heap.size wr V)=>hCall V (hbx.trans (hb.mono hbx.size)));clear hCall;unfold aggV at HC;have hxj:=HX.out;have hpj:=HPb.out j (by omega);have hwj:=HWb.out j hlt;have hwr:IntKind.i64.wrap (x + ws j) = x + ws j:=IntWalk.i64_in _ (by omega);have HX2:Hid (x + ws j = (4:Int) + ps (j + 1)):=Lib.hid (by rw [HPs.out j hlt];omega);clear hxj hpj hwj;have hi1:IntKind.i64.wrap ((j:Int) + 1) = ((j + 1:Nat):Int):=by
      rw [IntWalk.i64_in _ (by omega)]
      push_cast
      rfl
     have qlt:decide ((j:Int) < (len:Int)) = true:=decide_eq_true (by omega);go_wp2_with fail;refine (HC.out _ (Below.refl _ wr)).mono ?_;rintro e w3 ⟨rfl,hb3⟩;have hb4:=hbr.trans (hb3.mono hbr.size);go_wp2_with fail;go_roundw
     case rel=>exact ⟨j + 1,x + ws j,rfl,by go_num,by omega,HX2,hb4⟩
     case measure=>simp [intOf];omega
    ·obtain rfl:j = len:=by omega
     have qlt:decide ((j:Int) < (j:Int)) = false:=decide_eq_false (by omega);have hfin:x = W:=by rw [HX.out,HW.out];unfold needF;dsimp only;rw [if_neg (by decide),if_neg (by decide),if_neg (by decide),if_neg (by decide),if_neg (by decide),if_pos rfl,if_pos hq]
     have HFin:=Lib.hid hfin;clear hfin;go_wp2_with fail;go_ret;exact ⟨tm.ret1 HFin.out,hbw.trans (hbr.mono hbw.size)⟩
  ·have qb:decide (bt ≤ 512) = true:=decide_eq_true (by omega);go_enter Tryz.func88,Tryz.ntmps88;go_wp2_with fail;obtain ⟨W0,hW0⟩:∃ x,x = w.alloc (.cells #[.int .i64 10,.int .i64 i,.int .i64 gg,.string nm,.string fn,.int .i64 ar,.slice p len c,.string by_,.int .i64 bt] 38):=⟨_,rfl⟩;have hN0:Nine W0 w.heap.size ⟨10,i,gg,nm,fn,ar,by_,bt⟩ (.slice p len c):=by rw [hW0];exact nine_of (MapKept.heap_alloc w _).1
   have hbw:Below w.heap.size w W0:=by rw [hW0];exact (Below.refl _ _).alloc (Nat.le_refl _) _
   have hsz:W0.heap.size = w.heap.size + 1:=by rw [hW0];simp
   rw [← hW0];clear hW0;have HSZ:=Lib.hid hsz;clear hsz;have HN0:=Lib.hid hN0;clear hN0;go_loopw [3,6] (fun a s wr=>∃ (j:Nat) (x:Int),a = .int .i64 x∧s = .int .i64 j∧j ≤ len∧Hid (x = (2 + (bt + 63) / 64) + ps j)∧Below W0.heap.size W0 wr) (fun _ s _=>len - (intOf s).toNat)
   case atStart=>exact ⟨0,(2 + (bt + 63) / 64),rfl,rfl,by omega,Lib.hid (by rw [HP0.out];omega),Below.refl _ _⟩
   case round =>
    obtain ⟨j,x,rfl,rfl,hj,HX,hbr⟩:=hrel;have hbx:Below w.heap.size w wr:=hbw.trans (hbr.mono hbw.size);have hN:=HN0.out.below hbr (by have:=HSZ.out;omega);obtain ⟨x0,x1,x2,x3,x4,x5,x6,x7,x8,xz⟩:=hN;dsimp only at x0 x1 x2 x3 x4 x5 x6 x7 x8
    by_cases hlt:j < len
    ·obtain ⟨g0,o0,f',q,m,c',rfl,hg0,hC,hCall⟩:=HEl.out j hlt;have hC:=hC.same (hbx.block g0 hg0);obtain ⟨y0,y1,y2,y3,y4,y5,y6,y7,y8⟩:=hC;have HC:=Lib.hid (fun V (hb:Below wr.heap.size wr V)=>hCall V (hbx.trans (hb.mono hbx.size)));clear hCall;unfold aggV at HC;have hxj:=HX.out;have hpj:=HPb.out j (by omega);have hwj:=HWb.out j hlt;have hwr:IntKind.i64.wrap (x + ws j) = x + ws j:=IntWalk.i64_in _ (by omega);have HX2:Hid (x + ws j = (2 + (bt + 63) / 64) + ps (j + 1)):=Lib.hid (by rw [HPs.out j hlt];omega);clear hxj hpj hwj;have hi1:IntKind.i64.wrap ((j:Int) + 1) = ((j + 1:Nat):Int):=by
      rw [IntWalk.i64_in _ (by omega)]
      push_cast
      rfl
     have qlt:decide ((j:Int) < (len:Int)) = true:=decide_eq_true (by omega);go_wp2_with fail;refine (HC.out _ (Below.refl _ wr)).mono ?_;rintro e w3 ⟨rfl,hb3⟩;have hb4:=hbr.trans (hb3.mono hbr.size);go_wp2_with fail;go_roundw
     case rel=>exact ⟨j + 1,x + ws j,rfl,by go_num,by omega,HX2,hb4⟩
     case measure=>simp [intOf];omega
    ·obtain rfl:j = len:=by omega
     have qlt:decide ((j:Int) < (j:Int)) = false:=decide_eq_false (by omega);have hfin:x = W:=by rw [HX.out,HW.out];unfold needF;dsimp only;rw [if_neg (by decide),if_neg (by decide),if_neg (by decide),if_neg (by decide),if_neg (by decide),if_pos rfl,if_neg (show ¬ 512 < bt by omega)]
     have HFin:=Lib.hid hfin;clear hfin;go_wp2_with fail;go_ret;exact ⟨tm.ret1 HFin.out,hbw.trans (hbr.mono hbw.size)⟩
 ·have q1:(k == 1) = false:=by simp [h1]
  have q9:(k == 9) = false:=by simp [h9]
  have q7:(k == 7) = false:=by simp [h7]
  have q4:(k == 4) = false:=by simp [h4]
  have q5:(k == 5) = false:=by simp [h5]
  have q6:(k == 6) = false:=by simp [h6]
  have q3:(k == 3) = false:=by simp [h3]
  have q10:(k == 10) = false:=by simp [h10]
  go_enter Tryz.func88,Tryz.ntmps88;go_wp2_with fail;obtain ⟨W0,hW0⟩:∃ x,x = w.alloc (.cells #[.int .i64 k,.int .i64 i,.int .i64 gg,.string nm,.string fn,.int .i64 ar,.slice p len c,.string by_,.int .i64 bt] 38):=⟨_,rfl⟩;have hN0:Nine W0 w.heap.size ⟨k,i,gg,nm,fn,ar,by_,bt⟩ (.slice p len c):=by rw [hW0];exact nine_of (MapKept.heap_alloc w _).1
  have hbw:Below w.heap.size w W0:=by rw [hW0];exact (Below.refl _ _).alloc (Nat.le_refl _) _
  have hsz:W0.heap.size = w.heap.size + 1:=by rw [hW0];simp
  rw [← hW0];clear hW0;have HSZ:=Lib.hid hsz;clear hsz;have HN0:=Lib.hid hN0;clear hN0;go_loopw [3,6] (fun a s wr=>∃ (j:Nat) (x:Int),a = .int .i64 x∧s = .int .i64 j∧j ≤ len∧Hid (x = (0:Int) + ps j)∧Below W0.heap.size W0 wr) (fun _ s _=>len - (intOf s).toNat)
  case atStart=>exact ⟨0,(0:Int),rfl,rfl,by omega,Lib.hid (by rw [HP0.out];omega),Below.refl _ _⟩
  case round =>
   obtain ⟨j,x,rfl,rfl,hj,HX,hbr⟩:=hrel;have hbx:Below w.heap.size w wr:=hbw.trans (hbr.mono hbw.size);have hN:=HN0.out.below hbr (by have:=HSZ.out;omega);obtain ⟨x0,x1,x2,x3,x4,x5,x6,x7,x8,xz⟩:=hN;dsimp only at x0 x1 x2 x3 x4 x5 x6 x7 x8
   by_cases hlt:j < len
   ·obtain ⟨g0,o0,f',q,m,c',rfl,hg0,hC,hCall⟩:=HEl.out j hlt;have hC:=hC.same (hbx.block g0 hg0);obtain ⟨y0,y1,y2,y3,y4,y5,y6,y7,y8⟩:=hC;have HC:=Lib.hid (fun V (hb:Below wr.heap.size wr V)=>hCall V (hbx.trans (hb.mono hbx.size)));clear hCall;unfold aggV at HC;have hxj:=HX.out;have hpj:=HPb.out j (by omega);have hwj:=HWb.out j hlt;have hwr:IntKind.i64.wrap (x + ws j) = x + ws j:=IntWalk.i64_in _ (by omega);have HX2:Hid (x + ws j = (0:Int) + ps (j + 1)):=Lib.hid (by rw [HPs.out j hlt];omega);clear hxj hpj hwj;have hi1:IntKind.i64.wrap ((j:Int) + 1) = ((j + 1:Nat):Int):=by
     rw [IntWalk.i64_in _ (by omega)]
     push_cast
     rfl
    have qlt:decide ((j:Int) < (len:Int)) = true:=decide_eq_true (by omega);go_wp2_with fail;refine (HC.out _ (Below.refl _ wr)).mono ?_;rintro e w3 ⟨rfl,hb3⟩;have hb4:=hbr.trans (hb3.mono hbr.size);go_wp2_with fail;go_roundw
    case rel=>exact ⟨j + 1,x + ws j,rfl,by go_num,by omega,HX2,hb4⟩
    case measure=>simp [intOf];omega
   ·obtain rfl:j = len:=by omega
    have qlt:decide ((j:Int) < (j:Int)) = false:=decide_eq_false (by omega);have hfin:x = W:=by rw [HX.out,HW.out];unfold needF;dsimp only;rw [if_neg h1,if_neg h9,if_neg h7,if_neg h4,if_neg (fun e=>e.elim h5 (fun e=>e.elim h6 h3)),if_neg h10]
    have HFin:=Lib.hid hfin;clear hfin;go_wp2_with fail;go_ret;exact ⟨tm.ret1 HFin.out,hbw.trans (hbr.mono hbw.size)⟩
theorem rneedAll:∀ n,RNeedS n
 | 0=>rneedStep (fun m h=>by omega)
 | n + 1=>rneedStep (fun m h=>by (obtain rfl:n = m:=(by omega));exact rneedAll n)
end Go.Proofs.YtpnlnbolhkcnjaaGreat.hp
