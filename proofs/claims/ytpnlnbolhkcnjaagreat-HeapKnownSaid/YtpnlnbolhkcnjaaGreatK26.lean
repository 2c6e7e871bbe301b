/- HpX,HpY. No condition beyond theirs. -/
import Derived.Test.YtpnlnbolhkcnjaaGreatK25
set_option linter.unusedSimpArgs false
set_option linter.unusedVariables false
set_option maxHeartbeats 4000000
set_option maxRecDepth 100000
namespace Go.Proofs.YtpnlnbolhkcnjaaGreat.hp
open Go.RowKit mem words rec tm
theorem key9s:KeyAny Tryz.prog 9 Value.string:=(string_key Tryz.underlying9).any
theorem key3i:KeyAny Tryz.prog 3 (Value.int .i64):=(int_key Tryz.underlying3).any
theorem zero3i (w:World):(zeroValue 3).run Tryz.prog w = .ok (.int .i64 0) w:=by kernel_rfl
theorem zero129 (w:World):(zeroValue 129).run Tryz.prog w = .ok (entV ⟨#[]⟩ 0) w:=by kernel_rfl
theorem field129 (s:ByteArray) (c:Int) (W:World):(Instr.field 129 (entV s c) 1).run Tryz.prog W = .ok (.int .i64 c) W:=by kernel_rfl
section
variable {w:World} {b:Nat} {I E:Ents} {gv tot:Int} {m1 m2:Nat}
theorem made73 (hc:w.cell? ⟨b,0,none⟩ = some (.map (some m1))):Calls Tryz.prog 73 #[.pointer (some ⟨b,0,none⟩)] w fun e w'=>e = .returned (.bool true)∧w = w':=by
 have hn:=fun w=>run_neq_map_nil (P:=Tryz.prog) w 115 9 3 (some m1) Tryz.underlying115;go_enter Tryz.func73,Tryz.ntmps73;go_wp2
 go_ret;exact ⟨rfl,rfl⟩
theorem look_ids (h:Sto2 w b I E gv tot m1 m2) (s:ByteArray) :
 (Instr.lookup 115 (.map (some m1)) (.string s) true).run Tryz.prog w = .ok (.tuple #[.int .i64 (((findE I s).map fun i=>(((I[i]?).map (·.1)).getD 0)).getD 0),.bool (findE I s).isSome]) w:=by
 have hl:=run_lookup_any_ok key9s Tryz.underlying115 h.ids.is s (zero3i w);rw [find_ids] at hl;rw [hl];cases findE I s <;> rfl
theorem look_ent (h:Sto2 w b I E gv tot m1 m2) (k:Int) :
 (Instr.lookup 118 (.map (some m2)) (.int .i64 k) false).run Tryz.prog w = .ok ((alFind (entK E) k).getD (entV ⟨#[]⟩ 0)) w :=
 run_lookup_any key3i Tryz.underlying118 h.ent.is k (zero129 w)
theorem upd_ent (h:Sto2 w b I E gv tot m1 m2) (k:Int) (v:Value):∃ w',(Instr.mapUpdate 118 (.map (some m2)) (.int .i64 k) v).run Tryz.prog w = .ok () w'∧MapR (Value.int .i64) w' m2 (alPut (entK E) k v)∧TouchB (fun i=>i = m2) w w' :=
 let ⟨w',h1,h2,h3,_⟩:=run_mapUpdate_any key3i Tryz.underlying118 h.ent k v
 ⟨w',h1,h2,h3⟩
def PutSP (b:Nat) (σ:St) (m1 m2:Nat) (s:ByteArray) (w:World) (e:Ending) (w':World):Prop :=
 e = .returned (.tuple #[.int .i64 (blobO s σ).1,.int .i64 0])∧Sto w' b (blobO s σ).2.E (blobO s σ).2.gv (blobO s σ).2.tot m1 m2∧WE (blobO s σ).2.E (blobO s σ).2.gv∧TouchB (sfoot b m1 m2) w w'
theorem put142y {σ:St} (h:Sto w b σ.E σ.gv σ.tot m1 m2) (hw:WE σ.E σ.gv) (s:ByteArray) (hs:s.size ≤ 2048) {i:Nat} (hi:findE σ.E s = some i) (hc:∀ e ∈ σ.E,0 ≤ e.2.2∧e.2.2 ≤ 1000000000) :
 Calls Tryz.prog 142 #[.pointer (some ⟨b,0,none⟩),.string s] w (PutSP b σ m1 m2 s w):=by
 obtain ⟨⟨id,s',n⟩,he,hes,hil⟩:=findE_get hi;dsimp only at hes;subst hes;have hn:=hc _ (List.mem_of_getElem? he);dsimp only at hn;have HM:=Lib.hid (made73 h.cells.1);have hl1:(Instr.lookup 115 (.map (some m1)) (.string s') true).run Tryz.prog w = .ok (.tuple #[.int .i64 id,.bool true]) w:=by
  rw [look_ids h s',hi];simp [he]
 have h':Sto w.drew b σ.E σ.gv σ.tot m1 m2:=h.below (belowD (Below.refl _ w));have hl2:(Instr.lookup 118 (.map (some m2)) (.int .i64 id) false).run Tryz.prog w.drew = .ok (entV s' n) w.drew:=by
  rw [look_ent h' id,find_ent hw.ids he];rfl
 obtain ⟨w2,hu,hm,ht⟩:=upd_ent h' id (entV s' (n + 1));have hwr:IntKind.i64.wrap (n + 1) = n + 1:=IntWalk.i64_in _ (by omega);have hfd:=field129 s' n;have hp:=put_ent hw.ids he 1;dsimp only at hp;rw [hp] at hm;have hS:=(h'.ent_upd hm ht).ids_eq (ids_up σ.E i 1).1;have g1:=hS.cells.2.1;have hT:TouchB (sfoot b m1 m2) w w2:=((TouchB.refl _ w).ofBelow (belowD (Below.refl w.heap.size w)) (Nat.le_refl _)).trans (ht.mono (fun k _ e=>.inr (.inr e))) (fun _ _ e=>e);have hbl:blobO s' σ = (id,{ σ with E:=upE σ.E i 1 }):=by
  unfold blobO;rw [hi];simp [he]
 have HF:Hid (PutSP b σ m1 m2 s' w (.returned (.tuple #[.int .i64 id,.int .i64 0])) w2):=Lib.hid (by
  unfold PutSP
  rw [hbl]
  exact ⟨rfl,hS,hw.up i 1,hT⟩)
 obtain ⟨c0,c1,_,_⟩:=h.cells;obtain ⟨d0,d1,_,_⟩:=h'.cells;have hsz:decide ((2048:Int) < (s'.size:Int)) = false:=decide_eq_false (by omega);clear h h' hw hi hc he hil hm ht hp hS hT hbl hn hs;go_enter Tryz.func142,Tryz.ntmps142;go_wp2_with fail;refine HM.out.mono ?_;rintro e w1 ⟨rfl,rfl⟩;go_wp2_with fail;go_region_held3 (fun W=>W.cell? ⟨b,1,none⟩ = some (.map (some m2))) (go_keep) (fail)
 all_goals
  go_wp2_with fail;go_ret2
  exact HF.out
theorem put142n {σ:St} (h:Sto w b σ.E σ.gv σ.tot m1 m2) (hw:WE σ.E σ.gv) (s:ByteArray) (hs:s.size ≤ 2048) (hi:findE σ.E s = none) (hg0:0 ≤ σ.gv) (hg1:σ.gv ≤ 1000000000) (ht0:0 ≤ σ.tot) (ht1:σ.tot ≤ 1000000000000) :
 Calls Tryz.prog 142 #[.pointer (some ⟨b,0,none⟩),.string s] w (PutSP b σ m1 m2 s w):=by
 have HM:=Lib.hid (made73 h.cells.1);have hfd:=field129 ⟨#[]⟩ 0;have hl1:(Instr.lookup 115 (.map (some m1)) (.string s) true).run Tryz.prog w = .ok (.tuple #[.int .i64 0,.bool false]) w:=by
  rw [look_ids h s,hi];rfl
 have hbl:blobO s σ = (σ.gv + 1,{ σ with E:=σ.E ++ [(σ.gv + 1,s,1)],gv:=σ.gv + 1,tot:=σ.tot + s.size }):=by
  unfold blobO;rw [hi]
 have HWE:=Lib.hid (hw.new hg0 hi 1);have hwr1:IntKind.i64.wrap (σ.gv + 1) = σ.gv + 1:=IntWalk.i64_in _ (by omega);have hwr2:IntKind.i64.wrap (σ.tot + (s.size:Int)) = σ.tot + s.size:=IntWalk.i64_in _ (by omega);have hpi:=put_ids hi (σ.gv + 1) 1;have hpe:=put_new hw (k:=σ.gv + 1) (by omega) s 1;have hne:=no_ent hw (k:=σ.gv + 1) (by omega);have hno:alFind (entK σ.E) (σ.gv + 1) = none:=by
  rw [← alFind_idx,hne];rfl
 have HPI:=Lib.hid hpi;have HPE:=Lib.hid hpe;have HNO:=Lib.hid hno;have HS:=Lib.hid h;have hsz:decide ((2048:Int) < (s.size:Int)) = false:=decide_eq_false (by omega);unfold PutSP;rw [hbl];dsimp only;obtain ⟨c0,c1,c2,c3⟩:=h.cells;have cf:=h.frozen 2;clear h hw hi hpi hpe hne hno hbl hs hg0 hg1 ht0 ht1;generalize σ.E = E at *;generalize σ.gv = gv at *;generalize σ.tot = tot at *;go_enter Tryz.func142,Tryz.ntmps142;go_wp2_with fail;refine HM.out.mono ?_;rintro e w1 ⟨rfl,rfl⟩;go_upto_region 8 with (fail)
 have HT1:=Lib.hid ((TouchB.refl (sfoot b m1 m2) w).setCell ⟨b,2,none⟩ (.int .i64 (gv + 1)) (fun _=>.inl rfl));have h1:=HS.out.set2 (gv + 1);generalize w.setCell ⟨b,2,none⟩ (.int .i64 (gv + 1)) = w1 at *;clear c0 c1 c2 c3 cf hl1 HM;obtain ⟨c0,c1,c2,c3⟩:=h1.cells;have H1:=Lib.hid h1;clear h1
 go_wp2_with (at_mapUpdate;refine wpList_mapUpdate_r _ rfl _ _ _ 115 rfl key9s Tryz.underlying115 m1 (idsK E) H1.out.ids s (.int .i64 (gv + 1)) rfl rfl rfl ?_;intro w2 hm2 ht2 _;rw [HPI.out] at hm2;have H2:=Lib.hid (H1.out.ids_upd hm2 ht2);have HT2:=Lib.hid (HT1.out.trans (ht2.mono (S':=sfoot b m1 m2) (fun k _ e=>.inr (.inl e))) (fun _ _ e=>e));clear hm2 ht2 c0 c1 c2 c3;obtain ⟨c0,c1,c2,c3⟩:=H2.out.cells;have cf:=H2.out.frozen 3;go_upto_region 11 with (fail))
 have HT3:=Lib.hid (HT2.out.setCell ⟨b,3,none⟩ (.int .i64 (tot + s.size)) (fun _=>.inl rfl));have h3:=H2.out.set3 (tot + s.size);generalize w2.setCell ⟨b,3,none⟩ (.int .i64 (tot + s.size)) = w3 at *;clear c0 c1 c2 c3 cf;obtain ⟨c0,c1,c2,c3⟩:=h3.cells;have h4:=h3.below (belowD (Below.refl _ w3));have hl2:(Instr.lookup 118 (.map (some m2)) (.int .i64 (gv + 1)) false).run Tryz.prog w3.drew = .ok (entV ⟨#[]⟩ 0) w3.drew:=by
  rw [look_ent h4 (gv + 1),HNO.out];rfl
 obtain ⟨w5,hu,hm,ht⟩:=upd_ent h4 (gv + 1) (entV s 1);rw [HPE.out] at hm;have HF:=Lib.hid (h4.ent_upd hm ht);have HT:=Lib.hid (((HT3.out.drew).trans (ht.mono (S':=sfoot b m1 m2) (fun k _ e=>.inr (.inr e))) (fun _ _ e=>e)));obtain ⟨d0,d1,d2,d3⟩:=h4.cells;have g1:=HF.out.cells.2.1;have hw1:IntKind.i64.wrap 1 = 1:=by decide
 clear h3 h4 hm ht;go_region_held3 (fun W=>W.cell? ⟨b,1,none⟩ = some (.map (some m2))) (go_keep) (fail)
 all_goals
  go_wp2_with fail;go_ret2
  exact ⟨rfl,HF.out,HWE.out,HT.out⟩
end
theorem byteN_lt (s:ByteArray) (k:Nat):byteN s k < 256:=by
 unfold byteN;exact UInt8.toNat_lt _
def tm8 (s:ByteArray) (i j k:Nat):Nat:=if 8 * j + k < i then byteN s (8 * j + k) * 2 ^ (56 - 8 * k) else 0
theorem packN_eq (s:ByteArray) (i j:Nat):packN s i j = tm8 s i j 0 + (tm8 s i j 1 + (tm8 s i j 2 + (tm8 s i j 3 + (tm8 s i j 4 + (tm8 s i j 5 + (tm8 s i j 6 + tm8 s i j 7)))))):=rfl
theorem lt_add_f (a k:Nat):(a + k < a) = False:=by simp
theorem pack_step (s:ByteArray) (j r:Nat) (hr:r < 8):packN s (8 * j + r + 1) j = packN s (8 * j + r) j + byteN s (8 * j + r) * 2 ^ (56 - 8 * r)∧(∃ m,packN s (8 * j + r) j = 2 ^ (64 - 8 * r) * m)∧packN s (8 * j + r) j + 255 * 2 ^ (56 - 8 * r) ≤ 18446744073709551615:=by
 have b0:=byteN_lt s (8 * j + 0);have b1:=byteN_lt s (8 * j + 1);have b2:=byteN_lt s (8 * j + 2);have b3:=byteN_lt s (8 * j + 3);have b4:=byteN_lt s (8 * j + 4);have b5:=byteN_lt s (8 * j + 5);have b6:=byteN_lt s (8 * j + 6);have b7:=byteN_lt s (8 * j + 7);have hc:r = 0∨r = 1∨r = 2∨r = 3∨r = 4∨r = 5∨r = 6∨r = 7:=by omega
 rw [packN_eq,packN_eq];rcases hc with rfl | rfl | rfl | rfl | rfl | rfl | rfl | rfl
 all_goals
  simp only [tm8,lt_add_f,Nat.lt_add_right_iff_pos,Nat.add_lt_add_iff_left,Nat.lt_irrefl,if_true,if_false,Nat.add_assoc,Nat.reduceAdd,Nat.reduceLT,Nat.reduceMul,Nat.reduceSub,Nat.reducePow,Nat.add_zero,Nat.zero_add,Nat.lt_add_one,Nat.mul_one,Nat.mul_zero,Nat.sub_zero] at *;refine ⟨by omega,?_,by omega⟩
  first
   | exact ⟨0,by omega⟩
   | (refine ⟨_ / _,(Nat.mul_div_cancel' (Nat.dvd_of_mod_eq_zero ?_)).symm⟩;omega)
theorem pack_other (s:ByteArray) (i j:Nat) (h:i / 8 ≠ j):packN s (i + 1) j = packN s i j:=by
 have e:∀ k,k < 8→tm8 s (i + 1) j k = tm8 s i j k:=fun k hk=>by
  unfold tm8;have:(8 * j + k < i + 1) = (8 * j + k < i):=by
   apply propext;omega
  simp only [this]
 rw [packN_eq,packN_eq,e 0 (by omega),e 1 (by omega),e 2 (by omega),e 3 (by omega),e 4 (by omega),e 5 (by omega),e 6 (by omega),e 7 (by omega)]
theorem pack_zero (s:ByteArray) (j:Nat):packN s 0 j = 0:=by
 rw [packN_eq];simp [tm8]
theorem packI_len (s:ByteArray) (i n:Nat):(packI s i n).length = n:=by
 unfold packI;simp
theorem packI_get (s:ByteArray) (i n j:Nat) (h:j < n):(packI s i n)[j]? = some ((packN s i j:Nat):Int):=by
 unfold packI;simp [h]
theorem packI_zero (s:ByteArray) (n:Nat):packI s 0 n = List.replicate n 0:=by
 apply List.ext_getElem?;intro j
 by_cases h:j < n
 ·rw [packI_get s 0 n j h,pack_zero,List.getElem?_replicate,if_pos h];rfl
 ·rw [List.getElem?_eq_none (by rw [packI_len];omega),List.getElem?_eq_none (by simp;omega)]
theorem packI_step (s:ByteArray) (i n:Nat) (h:i / 8 < n):packI s (i + 1) n = (packI s i n).set (i / 8) ((packN s i (i / 8):Nat) + (byteN s i:Int) * 2 ^ (56 - 8 * (i % 8))):=by
 apply List.ext_getElem?;intro j;rw [List.getElem?_set]
 by_cases hj:j < n
 ·rw [packI_get s (i + 1) n j hj,packI_get s i n j hj,packI_len]
  by_cases e:i / 8 = j
  ·subst e;rw [if_pos rfl,if_pos hj];have hs:=(pack_step s (i / 8) (i % 8) (by omega)).1;have hi:8 * (i / 8) + i % 8 = i:=by omega
   rw [hi] at hs;rw [hs]
   push_cast
   rfl
  ·rw [if_neg e,pack_other s i j e]
 ·rw [List.getElem?_eq_none (by rw [packI_len];omega)]
  by_cases e:i / 8 = j
  ·omega
  ·rw [if_neg e,List.getElem?_eq_none (by rw [packI_len];omega)]
theorem pack_or (s:ByteArray) (i:Nat):bits .or .u64 ((packN s i (i / 8):Nat):Int) ((byteN s i:Int) * 2 ^ (56 - 8 * (i % 8))) = (packN s i (i / 8):Nat) + (byteN s i:Int) * 2 ^ (56 - 8 * (i % 8)):=by
 have hi:8 * (i / 8) + i % 8 = i:=by omega
 obtain ⟨_,⟨m,hm⟩,hb⟩:=pack_step s (i / 8) (i % 8) (by omega);rw [hi] at hm hb;have hB:=byteN_lt s i;have hmul:byteN s i * 2 ^ (56 - 8 * (i % 8)) ≤ 255 * 2 ^ (56 - 8 * (i % 8)):=Nat.mul_le_mul_right _ (by omega);have hpow:2 ^ (64 - 8 * (i % 8)) = 256 * 2 ^ (56 - 8 * (i % 8)):=by
  have:64 - 8 * (i % 8) = (56 - 8 * (i % 8)) + 8:=by omega
  rw [this,Nat.pow_add];omega
 have hlt:byteN s i * 2 ^ (56 - 8 * (i % 8)) < 2 ^ (64 - 8 * (i % 8)):=by
  rw [hpow];exact Nat.mul_lt_mul_of_pos_right hB (Nat.two_pow_pos _)
 have hc:((byteN s i:Int) * 2 ^ (56 - 8 * (i % 8))) = ((byteN s i * 2 ^ (56 - 8 * (i % 8)):Nat):Int):=by push_cast;rfl
 have h1:((packN s i (i / 8):Nat):Int) = 2 ^ (64 - 8 * (i % 8)) * (m:Int):=by rw [hm];push_cast;rfl
 rw [hc,h1]
 refine words.or_low (64 - 8 * (i % 8)) (m:Int) _ (by omega) (by omega) ?_ ?_
 ·have:((2:Int) ^ (64 - 8 * (i % 8))) = ((2 ^ (64 - 8 * (i % 8)):Nat):Int):=by push_cast;rfl
  rw [this];omega
 ·rw [← h1];omega
end Go.Proofs.YtpnlnbolhkcnjaaGreat.hp
