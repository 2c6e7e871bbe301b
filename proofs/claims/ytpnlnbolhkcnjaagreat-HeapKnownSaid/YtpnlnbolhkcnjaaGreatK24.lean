/- HpT,HpU. No condition beyond theirs. -/
import Derived.Test.YtpnlnbolhkcnjaaGreatK22
import Derived.Test.YtpnlnbolhkcnjaaGreatK23
set_option linter.unusedSimpArgs false
set_option linter.unusedVariables false
set_option maxHeartbeats 4000000
set_option maxRecDepth 100000
namespace Go.Proofs.YtpnlnbolhkcnjaaGreat.hp
open Go.RowKit mem words rec tm
structure Sto2 (w:World) (b:Nat) (I E:Ents) (gv tot:Int) (m1 m2:Nat):Prop where
 blk:w.heap[b]? = some (.cells #[.map (some m1),.map (some m2),.int .i64 gv,.int .i64 tot] 120 (0,0))
 ids:MapR Value.string w m1 (idsK I)
 ent:MapR (Value.int .i64) w m2 (entK E)
 n1:b ≠ m1
 n2:b ≠ m2
 n3:m1 ≠ m2
abbrev Sto (w:World) (b:Nat) (E:Ents) (gv tot:Int) (m1 m2:Nat):Prop:=Sto2 w b E E gv tot m1 m2
def sfoot (b m1 m2:Nat) (k:Nat):Prop:=k = b∨k = m1∨k = m2
section
variable {w:World} {b:Nat} {I E:Ents} {gv tot:Int} {m1 m2:Nat}
theorem Sto2.lt (h:Sto2 w b I E gv tot m1 m2):∀ k,sfoot b m1 m2 k→k < w.heap.size:=by
 rintro k (rfl | rfl | rfl)
 ·exact (Array.getElem?_eq_some_iff.1 h.blk).1
 ·exact h.ids.lt
 ·exact h.ent.lt
theorem Sto2.same {w':World} (h:Sto2 w b I E gv tot m1 m2) (hs:∀ k,sfoot b m1 m2 k→w'.heap[k]? = w.heap[k]?):Sto2 w' b I E gv tot m1 m2 :=
 ⟨(hs b (.inl rfl)).trans h.blk,h.ids.same (hs _ (.inr (.inl rfl))),h.ent.same (hs _ (.inr (.inr rfl))),h.n1,h.n2,h.n3⟩
theorem Sto2.below {w':World} (h:Sto2 w b I E gv tot m1 m2) (hb:Below w.heap.size w w'):Sto2 w' b I E gv tot m1 m2:=h.same fun k hk=>hb.block k (h.lt k hk)
theorem Sto2.cells (h:Sto2 w b I E gv tot m1 m2):w.cell? ⟨b,0,none⟩ = some (.map (some m1))∧w.cell? ⟨b,1,none⟩ = some (.map (some m2))∧w.cell? ⟨b,2,none⟩ = some (.int .i64 gv)∧w.cell? ⟨b,3,none⟩ = some (.int .i64 tot) :=
 ⟨(cell_of_blk h.blk).trans rfl,(cell_of_blk h.blk).trans rfl,(cell_of_blk h.blk).trans rfl,(cell_of_blk h.blk).trans rfl⟩
theorem Sto2.frozen (h:Sto2 w b I E gv tot m1 m2) (j:Nat):w.frozen? ⟨b,j,none⟩ = false:=frozen_of_row w b j _ _ h.blk
theorem Sto2.set2 (h:Sto2 w b I E gv tot m1 m2) (g':Int):Sto2 (w.setCell ⟨b,2,none⟩ (.int .i64 g')) b I E g' tot m1 m2 :=
 ⟨blk_set h.blk _,h.ids.same (blk_oth _ _ _ _ (Ne.symm h.n1)),h.ent.same (blk_oth _ _ _ _ (Ne.symm h.n2)),h.n1,h.n2,h.n3⟩
theorem Sto2.set3 (h:Sto2 w b I E gv tot m1 m2) (t':Int):Sto2 (w.setCell ⟨b,3,none⟩ (.int .i64 t')) b I E gv t' m1 m2 :=
 ⟨blk_set h.blk _,h.ids.same (blk_oth _ _ _ _ (Ne.symm h.n1)),h.ent.same (blk_oth _ _ _ _ (Ne.symm h.n2)),h.n1,h.n2,h.n3⟩
theorem Sto2.ids_upd {w':World} {I':Ents} (h:Sto2 w b I E gv tot m1 m2) (hm:MapR Value.string w' m1 (idsK I')) (ht:TouchB (fun i=>i = m1) w w'):Sto2 w' b I' E gv tot m1 m2:=by
 have e:∀ k,k < w.heap.size→k ≠ m1→w'.heap[k]? = w.heap[k]?:=fun k hk hn=>ht.block k hk hn;exact ⟨(e b (h.lt b (.inl rfl)) h.n1).trans h.blk,hm,h.ent.same (e m2 (h.lt m2 (.inr (.inr rfl))) (Ne.symm h.n3)),h.n1,h.n2,h.n3⟩
theorem Sto2.ent_upd {w':World} {E':Ents} (h:Sto2 w b I E gv tot m1 m2) (hm:MapR (Value.int .i64) w' m2 (entK E')) (ht:TouchB (fun i=>i = m2) w w'):Sto2 w' b I E' gv tot m1 m2:=by
 have e:∀ k,k < w.heap.size→k ≠ m2→w'.heap[k]? = w.heap[k]?:=fun k hk hn=>ht.block k hk hn;exact ⟨(e b (h.lt b (.inl rfl)) h.n2).trans h.blk,h.ids.same (e m1 (h.lt m1 (.inr (.inl rfl))) h.n3),hm,h.n1,h.n2,h.n3⟩
theorem Sto2.ids_eq {I':Ents} (h:Sto2 w b I E gv tot m1 m2) (e:idsK I' = idsK I):Sto2 w b I' E gv tot m1 m2:=⟨h.blk,e ▸ h.ids,h.ent,h.n1,h.n2,h.n3⟩
end
theorem HA.hb_lt {w:World} {B z a b:Nat} {c:Int} {vY vF:Value} {Y:List Int} {F:List Bool} (h:HA w B z a b c vY vF Y F):∀ k,HB z vY vF k→B ≤ k∧k < w.heap.size:=by
 rintro k (rfl | e | e)
 ·exact ⟨h.hz,(Array.getElem?_eq_some_iff.1 h.blk).1⟩
 ·exact h.y.lt e
 ·exact h.f.lt e
theorem HA.same {w w':World} {B z a b:Nat} {c:Int} {vY vF:Value} {Y:List Int} {F:List Bool} (h:HA w B z a b c vY vF Y F) (hs:∀ k,HB z vY vF k→w'.heap[k]? = w.heap[k]?):HA w' B z a b c vY vF Y F :=
 ⟨(hs z (.inl rfl)).trans h.blk,h.y.same fun k hk=>hs k (.inr (.inl hk)),h.f.same fun k hk=>hs k (.inr (.inr hk)),h.hz⟩
structure HX (w:World) (B z a b:Nat) (c:Int) (σ:St) (S:Nat→Prop) (vY vF:Value) (m:Nat) (p:Option Addr) (cc m1 m2:Nat):Prop where
 ha:HA w B z a b c vY vF σ.Y (cl.marks σ.O)
 tab:names.Tab w a σ.N m p cc
 sto:Sto w b σ.E σ.gv σ.tot m1 m2
 set:∀ k,S k↔HB z vY vF k∨names.foot a m p k∨sfoot b m1 m2 k
 d1:∀ k,HB z vY vF k→¬ names.foot a m p k
 d2:∀ k,HB z vY vF k→¬ sfoot b m1 m2 k
 d3:∀ k,names.foot a m p k→¬ sfoot b m1 m2 k
 low:∀ k,S k→B ≤ k
 we:WE σ.E σ.gv
 pos:∀ o ∈ σ.O,cl.IsObj o∧cl.Wds o
def HQ (w:World) (B z a b:Nat) (c:Int) (σ:St) (S:Nat→Prop):Prop:=∃ vY vF m p cc m1 m2,HX w B z a b c σ S vY vF m p cc m1 m2
def StepQ (B z a b:Nat) (c:Int) (S:Nat→Prop) (w:World) (σ':St) (w':World):Prop :=
 ∃ S',HQ w' B z a b c σ' S'∧TouchB S w w'∧∀ k,S' k→k < w.heap.size→S k
section
variable {w:World} {B z a b:Nat} {c:Int} {σ:St} {S:Nat→Prop}
theorem HX.lt {vY vF:Value} {m:Nat} {p:Option Addr} {cc m1 m2:Nat} (h:HX w B z a b c σ S vY vF m p cc m1 m2):∀ k,S k→k < w.heap.size:=fun k hk=>by
 rcases (h.set k).1 hk with hk | hk | hk
 ·exact (h.ha.hb_lt k hk).2
 ·exact h.tab.lt k hk
 ·exact h.sto.lt k hk
theorem HQ.lt (h:HQ w B z a b c σ S):∀ k,S k→k < w.heap.size:=by
 obtain ⟨vY,vF,m,p,cc,m1,m2,h⟩:=h;exact h.lt
theorem HQ.low (h:HQ w B z a b c σ S):∀ k,S k→B ≤ k:=by
 obtain ⟨vY,vF,m,p,cc,m1,m2,h⟩:=h;exact h.low
theorem HX.same {vY vF:Value} {m:Nat} {p:Option Addr} {cc m1 m2:Nat} {w':World} (h:HX w B z a b c σ S vY vF m p cc m1 m2) (hs:∀ k,S k→w'.heap[k]? = w.heap[k]?):HX w' B z a b c σ S vY vF m p cc m1 m2 where
 ha:=h.ha.same fun k hk=>hs k ((h.set k).2 (.inl hk))
 tab:=h.tab.same fun k hk=>hs k ((h.set k).2 (.inr (.inl hk)))
 sto:=h.sto.same fun k hk=>hs k ((h.set k).2 (.inr (.inr hk)))
 set:=h.set
 d1:=h.d1
 d2:=h.d2
 d3:=h.d3
 low:=h.low
 we:=h.we
 pos:=h.pos
theorem HQ.same {w':World} (h:HQ w B z a b c σ S) (hs:∀ k,S k→w'.heap[k]? = w.heap[k]?):HQ w' B z a b c σ S:=by
 obtain ⟨vY,vF,m,p,cc,m1,m2,h⟩:=h;exact ⟨vY,vF,m,p,cc,m1,m2,h.same hs⟩
theorem HQ.below {w':World} (h:HQ w B z a b c σ S) (hb:Below w.heap.size w w'):HQ w' B z a b c σ S:=h.same fun k hk=>hb.block k (h.lt k hk)
theorem StepQ.refl (h:HQ w B z a b c σ S):StepQ B z a b c S w σ w:=⟨S,h,TouchB.refl _ _,fun _ h _=>h⟩
theorem StepQ.of_below {w1 w':World} {σ':St} (hb:Below w.heap.size w w1) (h:StepQ B z a b c S w1 σ' w'):StepQ B z a b c S w σ' w':=by
 obtain ⟨S',h1,h2,h3⟩:=h;exact ⟨S',h1,((TouchB.refl _ w).ofBelow hb (Nat.le_refl _)).trans h2 (fun i _ hi=>hi),fun k hk hl=>h3 k hk (Nat.lt_of_lt_of_le hl hb.size)⟩
theorem StepQ.below {w1 w':World} {σ':St} (h:StepQ B z a b c S w σ' w1) (hb:Below w1.heap.size w1 w'):StepQ B z a b c S w σ' w':=by
 obtain ⟨S',h1,h2,h3⟩:=h;exact ⟨S',h1.below hb,h2.ofBelow hb h2.size,h3⟩
theorem StepQ.trans {S1:Nat→Prop} {w1 w2:World} {σ2:St} (t1:TouchB S w w1) (c1:∀ k,S1 k→k < w.heap.size→S k) (h2:StepQ B z a b c S1 w1 σ2 w2):StepQ B z a b c S w σ2 w2:=by
 obtain ⟨S2,h3,t2,c2⟩:=h2;exact ⟨S2,h3,t1.trans t2 (fun i hi h=>c1 i h hi),fun k hk hl=>c1 k (c2 k hk (Nat.lt_of_lt_of_le hl t1.size)) hl⟩
theorem HX.heap {vY vF:Value} {m:Nat} {p:Option Addr} {cc m1 m2:Nat} (h:HX w B z a b c σ S vY vF m p cc m1 m2) {x:List Int} (hx:cl.IsObj x∧cl.Wds x) {w':World}
 (hs:Step B z a b c vY vF w (σ.Y ++ x) (cl.marks σ.O ++ mk2 x.length) w'):StepQ B z a b c S w (addO x σ) w':=by
 obtain ⟨vY',vF',hA,ht,hc⟩:=hs;have hfo:∀ k,names.foot a m p k→w'.heap[k]? = w.heap[k]?:=fun k hk=>ht.block k (h.tab.lt k hk) (fun e=>h.d1 k e hk);have hso:∀ k,sfoot b m1 m2 k→w'.heap[k]? = w.heap[k]?:=fun k hk=>ht.block k (h.sto.lt k hk) (fun e=>h.d2 k e hk)
 refine ⟨fun k=>HB z vY' vF' k∨names.foot a m p k∨sfoot b m1 m2 k,⟨vY',vF',m,p,cc,m1,m2,⟨?_,h.tab.same hfo,h.sto.same hso,fun k=>Iff.rfl,fun k hk hf=>?_,fun k hk hf=>?_,h.d3,?_,h.we,?_⟩⟩,ht.mono fun k _ hk=>(h.set k).2 (.inl hk),?_⟩
 ·have e1:(addO x σ).Y = σ.Y ++ x:=by simp [St.Y,addO]
  have e2:cl.marks (addO x σ).O = cl.marks σ.O ++ mk2 x.length:=by simp [addO,cl.marks,mk2]
  rw [e1,e2];exact hA
 ·exact h.d1 k (hc k hk (h.tab.lt k hf)) hf
 ·exact h.d2 k (hc k hk (h.sto.lt k hf)) hf
 ·rintro k (hk | hk | hk)
  ·exact (hA.hb_lt k hk).1
  ·exact h.low k ((h.set k).2 (.inr (.inl hk)))
  ·exact h.low k ((h.set k).2 (.inr (.inr hk)))
 ·intro o ho
  rcases List.mem_append.1 ho with ho | ho
  ·exact h.pos o ho
  ·rw [List.mem_singleton.1 ho];exact hx
 ·rintro k (hk | hk | hk) hl
  ·exact (h.set k).2 (.inl (hc k hk hl))
  ·exact (h.set k).2 (.inr (.inl hk))
  ·exact (h.set k).2 (.inr (.inr hk))
theorem HX.names {vY vF:Value} {m:Nat} {p:Option Addr} {cc m1 m2:Nat} (h:HX w B z a b c σ S vY vF m p cc m1 m2) {w':World} {N':List ByteArray} {p':Option Addr} {c':Nat}
 (hT:names.Tab w' a N' m p' c') (ht:TouchB (names.foot a m p) w w') (hc:∀ k,names.foot a m p' k→names.foot a m p k∨w.heap.size ≤ k):StepQ B z a b c S w { σ with N:=N' } w':=by
 have hHo:∀ k,HB z vY vF k→w'.heap[k]? = w.heap[k]?:=fun k hk=>ht.block k (h.ha.hb_lt k hk).2 (fun e=>h.d1 k hk e);have hso:∀ k,sfoot b m1 m2 k→w'.heap[k]? = w.heap[k]?:=fun k hk=>ht.block k (h.sto.lt k hk) (fun e=>h.d3 k e hk);have hBw:B ≤ w.heap.size:=h.ha.le
 refine ⟨fun k=>HB z vY vF k∨names.foot a m p' k∨sfoot b m1 m2 k,⟨vY,vF,m,p',c',m1,m2,⟨h.ha.same hHo,hT,h.sto.same hso,fun k=>Iff.rfl,fun k hk hf=>?_,h.d2,fun k hf hk=>?_,?_,h.we,h.pos⟩⟩,ht.mono fun k _ hk=>(h.set k).2 (.inr (.inl hk)),?_⟩
 ·rcases hc k hf with e | e
  ·exact h.d1 k hk e
  ·have:=(h.ha.hb_lt k hk).2;omega
 ·rcases hc k hf with e | e
  ·exact h.d3 k e hk
  ·have:=h.sto.lt k hk;omega
 ·rintro k (hk | hk | hk)
  ·exact h.low k ((h.set k).2 (.inl hk))
  ·rcases hc k hk with e | e
   ·exact h.low k ((h.set k).2 (.inr (.inl e)))
   ·omega
  ·exact h.low k ((h.set k).2 (.inr (.inr hk)))
 ·rintro k (hk | hk | hk) hl
  ·exact (h.set k).2 (.inl hk)
  ·rcases hc k hk with e | e
   ·exact (h.set k).2 (.inr (.inl e))
   ·omega
  ·exact (h.set k).2 (.inr (.inr hk))
theorem HX.store {vY vF:Value} {m:Nat} {p:Option Addr} {cc m1 m2:Nat} (h:HX w B z a b c σ S vY vF m p cc m1 m2) {w':World} {E':Ents} {gv' tot':Int}
 (hT:Sto w' b E' gv' tot' m1 m2) (hw:WE E' gv') (ht:TouchB (sfoot b m1 m2) w w'):StepQ B z a b c S w { σ with E:=E',gv:=gv',tot:=tot' } w':=by
 have hHo:∀ k,HB z vY vF k→w'.heap[k]? = w.heap[k]?:=fun k hk=>ht.block k (h.ha.hb_lt k hk).2 (fun e=>h.d2 k hk e);have hfo:∀ k,names.foot a m p k→w'.heap[k]? = w.heap[k]?:=fun k hk=>ht.block k (h.tab.lt k hk) (fun e=>h.d3 k hk e);exact ⟨S,⟨vY,vF,m,p,cc,m1,m2,⟨h.ha.same hHo,h.tab.same hfo,hT,h.set,h.d1,h.d2,h.d3,h.low,hw,h.pos⟩⟩,ht.mono fun k _ hk=>(h.set k).2 (.inr (.inr hk)),fun _ hk _=>hk⟩
end
def rngF (f:TF):Prop:=-9223372036854775808 ≤ f.int∧f.int ≤ 9223372036854775807
def rngT:(n:Nat)→Tm n→Prop
 | 0,_=>True
 | n + 1,t=>rngF t.f∧∀ x ∈ t.items,rngT n x
def ndL (n:Nat) (l:List (Tm n)):Int:=(l.map (needT n)).sum
theorem need_eq {n:Nat} (t:Tm (n + 1)):needT (n + 1) t = needF t.f t.items.length + ndL n t.items:=rfl
theorem needF_bd {n:Nat} (t:Tm (n + 1)) (h:okT t = true):0 ≤ needF t.f t.items.length∧needF t.f t.items.length ≤ 10 + 2 * (t.items.length:Int)∧(t.f.kind = 9→2 ≤ t.items.length)∧(t.f.kind = 10→0 ≤ t.f.bits∧t.f.bits ≤ 16384):=by
 obtain ⟨_,_,h9,h10⟩:=okT_size t h;unfold needF
 split
 ·split <;> omega
 split
 ·rename_i h1 h2;have:=h9 h2;omega
 split
 ·omega
 split
 ·omega
 split
 ·omega
 split
 ·rename_i h1 h2 h3 h4 h5 h6;have:=h10 h6
  split <;> omega
 ·omega
theorem ndL_nil (n:Nat):ndL n [] = 0:=rfl
theorem ndL_cons {n:Nat} (x:Tm n) (l:List (Tm n)):ndL n (x :: l) = needT n x + ndL n l:=by
 unfold ndL;rw [List.map_cons,List.sum_cons]
theorem ndL_append {n:Nat} (a b:List (Tm n)):ndL n (a ++ b) = ndL n a + ndL n b:=by
 unfold ndL;rw [List.map_append,List.sum_append]
theorem ndL_bd {n:Nat} (P:∀ x:Tm (n + 1),formedT x = true→0 ≤ needT (n + 1) x∧needT (n + 1) x ≤ 12 * (nodesT x:Int) - 2):∀ l:List (Tm (n + 1)),formedL (n + 1) l = true→0 ≤ ndL (n + 1) l∧ndL (n + 1) l ≤ 12 * (nodesL (n + 1) l:Int) - 2 * l.length
 | [],_=>by simp [ndL,nodesL]
 | x :: l,h=>by
  have hx:formedT x = true∧formedL (n + 1) l = true:=by
   unfold formedL at h ⊢;rw [List.all_cons,Bool.and_eq_true] at h;exact h
  have h1:=P x hx.1;have h2:=ndL_bd P l hx.2;rw [ndL_cons,nodesL_cons];simp only [List.length_cons];have:(nodesT x:Int) = 1 + (nodesL n x.items:Int):=by unfold nodesT;push_cast;omega
  push_cast
  omega
theorem need_bd:∀ (n:Nat) (t:Tm (n + 1)),formedT t = true→0 ≤ needT (n + 1) t∧needT (n + 1) t ≤ 12 * (nodesT t:Int) - 2:=by
 intro n
 induction n with
 | zero =>
  intro t h;unfold formedT at h;rw [Bool.and_eq_true] at h;obtain ⟨a,b,_⟩:=needF_bd t h.1;have e:=Tm.nil0 t.items;have el:t.items.length = 0:=by rw [e];rfl
  have es:ndL 0 t.items = 0:=by rw [e];rfl
  have:(nodesT t:Int) = 1 + (nodesL 0 t.items:Int):=by unfold nodesT;push_cast;omega
  rw [need_eq,es];rw [el] at a b ⊢;omega
 | succ n ih =>
  intro t h;unfold formedT at h;rw [Bool.and_eq_true] at h;obtain ⟨a,b,_⟩:=needF_bd t h.1;obtain ⟨c,d⟩:=ndL_bd ih t.items h.2;rw [need_eq];have:(nodesT t:Int) = 1 + (nodesL (n + 1) t.items:Int):=by unfold nodesT;push_cast;omega
  omega
theorem bitWords71 (w:World) (n:Int) (h0:0 ≤ n) (h1:n ≤ 1000000):Calls Tryz.prog 71 #[.int .i64 n] w fun e w'=>e = .returned (.int .i64 (if 512 < n then 4 else 2 + (n + 63) / 64))∧w = w':=by
 by_cases h:512 < n
 ·rw [if_pos h];go_enter Tryz.func71,Tryz.ntmps71;go_wp2
  go_ret;exact ⟨rfl,rfl⟩
 ·rw [if_neg h];have e1:IntKind.i64.wrap (n + 63) = n + 63:=IntWalk.i64_in _ (by omega);have e2:IntKind.i64.wrap ((n + 63) / 64) = (n + 63) / 64:=IntWalk.i64_in _ (by omega);have e3:IntKind.i64.wrap (2 + (n + 63) / 64) = 2 + (n + 63) / 64:=IntWalk.i64_in _ (by omega);have e4:Int.tdiv (n + 63) 64 = (n + 63) / 64:=Int.tdiv_eq_ediv_of_nonneg (by omega);go_enter Tryz.func71,Tryz.ntmps71;go_wp2
  go_ret;exact ⟨rfl,rfl⟩
def NeedS (n:Nat):Prop:=∀ (w:World) (B:Nat) (v:Value) (t:Tm (n + 1)),B ≤ w.heap.size→ItemsAt w B n v t.items→formedT t = true→rngT (n + 1) t→nodesT t ≤ 100000 →
 Calls Tryz.prog 68 #[aggV t.f v] w fun e w'=>e = .returned (.int .i64 (needT (n + 1) t))∧Below w.heap.size w w'
theorem needEl {n:Nat} (ih:∀ m,n = m + 1→NeedS m) (w:World) (B:Nat) (p:Option Addr) (len c:Nat) (l:List (Tm n)) (hlen:l.length = len) (hB:B ≤ w.heap.size) (hI:ItemsAt w B n (.slice p len c) l) (hf:formedL n l = true) (hr:∀ x ∈ l,rngT n x) (hs:nodesL n l ≤ 100000) :
 ∃ ws ps:Nat→Int,(∀ j,j < len→∃ g o f' q m c',p = some ⟨g,o,none⟩∧g < w.heap.size∧Cells w g (o + j * 9) f' (.slice q m c')∧∀ W,Below w.heap.size w W→Calls Tryz.prog 68 #[aggV f' (.slice q m c')] W fun e w'=>e = .returned (.int .i64 (ws j))∧Below W.heap.size W w') ∧
  ps 0 = 0∧(∀ j,j < len→ps (j + 1) = ps j + ws j)∧ps len = ndL n l∧(∀ j,j ≤ len→0 ≤ ps j∧ps j ≤ 1300000)∧(∀ j,j < len→0 ≤ ws j∧ws j ≤ 1300000):=by
 cases n with
 | zero =>
  obtain rfl:=Tm.nil0 l;subst hlen;exact ⟨fun _=>0,fun _=>0,fun j hj=>absurd hj (by simp),rfl,fun _ _=>rfl,rfl,fun _ _=>⟨by simp,by simp⟩,fun _ _=>⟨by simp,by simp⟩⟩
 | succ n =>
  subst hlen;obtain ⟨ws,hws⟩:∃ ws:Nat→Int,∀ j,(h:j < l.length)→ws j = needT (n + 1) l[j]:=⟨fun j=>if h:j < l.length then needT (n + 1) l[j] else 0,fun j h=>dif_pos h⟩;have hfj:∀ j,(h:j < l.length)→formedT l[j] = true:=fun j h=>by
   unfold formedL at hf;rw [List.all_eq_true] at hf;exact hf l[j] (List.getElem_mem h)
  have hnj:∀ j,(h:j < l.length)→nodesT l[j] ≤ 100000:=fun j h=>by
   have:=nodes_mem h;omega
  refine ⟨ws,fun j=>ndL (n + 1) (l.take j),fun j hj=>?_,?_,fun j hj=>?_,?_,fun j hj=>?_,fun j hj=>?_⟩
  ·obtain ⟨g,o,c2,e,_,_,hg,hx⟩:=hI.at_ (by intro e;subst e;simp at hj);obtain ⟨u,hC,hI2⟩:=hx j hj;simp only [Value.slice.injEq] at e;obtain ⟨q,c',rfl,_,_⟩:=hI2.shape;refine ⟨g,o,l[j].f,q,_,c',e.1,by omega,hC,fun W hb=>?_⟩;rw [hws j hj];exact ih n rfl W B _ l[j] (Nat.le_trans hB hb.size) (hI2.below hb hB) (hfj j hj) (hr _ (List.getElem_mem hj)) (hnj j hj)
  ·simp [ndL]
  ·rw [hws j hj];show ndL (n + 1) (l.take (j + 1)) = ndL (n + 1) (l.take j) + needT (n + 1) l[j];rw [List.take_succ_eq_append_getElem hj,ndL_append,ndL_cons,ndL_nil];omega
  ·show ndL (n + 1) (l.take l.length) = _;rw [List.take_of_length_le (Nat.le_refl _)]
  ·have hfl:formedL (n + 1) (l.take j) = true:=formed_yes (fun k hk=>by
    rw [List.getElem_take];exact hfj k (by simp at hk;omega))
   obtain ⟨a,b⟩:=ndL_bd (need_bd n) _ hfl;refine ⟨a,?_⟩;have hle:nodesL (n + 1) (l.take j) ≤ nodesL (n + 1) l:=by
    have e:nodesL (n + 1) l = nodesL (n + 1) (l.take j ++ l.drop j):=by rw [List.take_append_drop]
    rw [e,nodesL_append];omega
   show ndL (n + 1) (l.take j) ≤ _;omega
  ·rw [hws j hj];obtain ⟨a,b⟩:=need_bd n l[j] (hfj j hj);have:=hnj j hj;omega
theorem needStep {n:Nat} (ih:∀ m,n = m + 1→NeedS m):NeedS n:=by
 intro w B v t hB hI hft hrt hs;obtain ⟨p,c,rfl,hlc,hcm⟩:=hI.shape;unfold maxLen at hcm;generalize hlen:t.items.length = len at *;have hft':=hft;unfold formedT at hft';rw [Bool.and_eq_true] at hft';have hnT:nodesL n t.items ≤ 100000:=by unfold nodesT at hs;omega
 obtain ⟨ws,ps,hEl,hp0,hps,hpl,hpb,hwb⟩:=needEl ih w B p len c t.items hlen hB hI hft'.2 hrt.2 hnT;obtain ⟨hz1,hz2,hz9,hz10⟩:=needF_bd t hft'.1;have hnl:=nodes_len n t.items;rw [hlen] at hz1 hz2 hz9 hnl;have hlb:(len:Int) ≤ 100000:=by omega
 have hW:needT (n + 1) t = needF t.f len + ps len:=by rw [need_eq,hlen,hpl]
 have hri:=hrt.1;clear ih hI hft hft' hs hnT hnl hpl hcm hz1 hz2 hrt;generalize needT (n + 1) t = W at *;generalize hf:t.f = f at *;clear hf hlen;obtain ⟨k,i,gg,nm,fn,ar,by_,bt⟩:=f;unfold rngF at hri;unfold aggV at *;dsimp only at *;have HEl:=Lib.hid hEl;have HP0:=Lib.hid hp0;have HPs:=Lib.hid hps;have HPb:=Lib.hid hpb;have HWb:=Lib.hid hwb;have HW:=Lib.hid hW;have HSm:=Lib.hid (fun W=>words.Small i hri.1 hri.2 W);clear hEl hp0 hps hpb hW hwb hri
 by_cases h1:k = 1
 ·subst h1
  by_cases hq:smallOk i = true
  ·rw [hq] at HSm;go_enter Tryz.func68,Tryz.ntmps68;go_wp2_with fail;refine (HSm.out _).mono ?_;rintro e w' ⟨rfl,rfl⟩;go_wp2_with fail;obtain ⟨W0,hW0⟩:∃ x,x = w.alloc (.cells #[.int .i64 1,.int .i64 i,.int .i64 gg,.string nm,.string fn,.int .i64 ar,.slice p len c,.string by_,.int .i64 bt] 38):=⟨_,rfl⟩;have hN0:Nine W0 w.heap.size ⟨1,i,gg,nm,fn,ar,by_,bt⟩ (.slice p len c):=by rw [hW0];exact nine_of (MapKept.heap_alloc w _).1
   have hbw:Below w.heap.size w W0:=by rw [hW0];exact (Below.refl _ _).alloc (Nat.le_refl _) _
   have hsz:W0.heap.size = w.heap.size + 1:=by rw [hW0];simp
   rw [← hW0];clear hW0;have HSZ:=Lib.hid hsz;clear hsz;have HN0:=Lib.hid hN0;clear hN0;go_loopw [3,51] (fun a s wr=>∃ (j:Nat) (x:Int),a = .int .i64 x∧s = .int .i64 j∧j ≤ len∧Hid (x = (0:Int) + ps j)∧Below W0.heap.size W0 wr) (fun _ s _=>len - (intOf s).toNat)
   case atStart=>exact ⟨0,(0:Int),rfl,rfl,by omega,Lib.hid (by rw [HP0.out];omega),Below.refl _ _⟩
   case round =>
    obtain ⟨j,x,rfl,rfl,hj,HX,hbr⟩:=hrel;have hbx:Below w.heap.size w wr:=hbw.trans (hbr.mono hbw.size);have hN:=HN0.out.below hbr (by have:=HSZ.out;omega);obtain ⟨x0,x1,x2,x3,x4,x5,x6,x7,x8,xz⟩:=hN;dsimp only at x0 x1 x2 x3 x4 x5 x6 x7 x8
    by_cases hlt:j < len
    ·obtain ⟨g0,o0,f',q,m,c',rfl,hg0,hC,hCall⟩:=HEl.out j hlt;have hC:=hC.same (hbx.block g0 hg0);obtain ⟨y0,y1,y2,y3,y4,y5,y6,y7,y8⟩:=hC;have HC:=Lib.hid (fun V (hb:Below wr.heap.size wr V)=>hCall V (hbx.trans (hb.mono hbx.size)));clear hCall;unfold aggV at HC;have hxj:=HX.out;have hpj:=HPb.out j (by omega);have hwj:=HWb.out j hlt;have hwr:IntKind.i64.wrap (x + ws j) = x + ws j:=IntWalk.i64_in _ (by omega);have HX2:Hid (x + ws j = (0:Int) + ps (j + 1)):=Lib.hid (by rw [HPs.out j hlt];omega);clear hxj hpj hwj;go_wp2_with fail;refine (HC.out _ (belowA (Below.refl _ wr) _)).mono ?_
     rintro e w3 ⟨rfl,hb3⟩;have hb4:=(hbr.trans ((belowA (Below.refl _ wr) _).mono hbr.size)).trans (hb3.mono (hbr.trans ((belowA (Below.refl _ wr) _).mono hbr.size)).size);go_wp2_with fail;go_roundw
     case rel=>exact ⟨j + 1,x + ws j,rfl,by go_num,by omega,HX2,hb4⟩
     case measure=>simp [intOf];omega
    ·obtain rfl:j = len:=by omega
     have hfin:x = W:=by rw [HX.out,HW.out];unfold needF;dsimp only;rw [if_pos rfl,if_pos hq]
     have HFin:=Lib.hid hfin;clear hfin;go_wp2_with fail;go_ret;exact ⟨tm.ret1 HFin.out,hbw.trans (hbr.mono hbw.size)⟩
  ·have hq':smallOk i = false:=by simpa using hq
   rw [hq'] at HSm;go_enter Tryz.func68,Tryz.ntmps68;go_wp2_with fail;refine (HSm.out _).mono ?_;rintro e w' ⟨rfl,rfl⟩;go_wp2_with fail;obtain ⟨W0,hW0⟩:∃ x,x = w.alloc (.cells #[.int .i64 1,.int .i64 i,.int .i64 gg,.string nm,.string fn,.int .i64 ar,.slice p len c,.string by_,.int .i64 bt] 38):=⟨_,rfl⟩;have hN0:Nine W0 w.heap.size ⟨1,i,gg,nm,fn,ar,by_,bt⟩ (.slice p len c):=by rw [hW0];exact nine_of (MapKept.heap_alloc w _).1
   have hbw:Below w.heap.size w W0:=by rw [hW0];exact (Below.refl _ _).alloc (Nat.le_refl _) _
   have hsz:W0.heap.size = w.heap.size + 1:=by rw [hW0];simp
   rw [← hW0];clear hW0;have HSZ:=Lib.hid hsz;clear hsz;have HN0:=Lib.hid hN0;clear hN0;go_loopw [3,51] (fun a s wr=>∃ (j:Nat) (x:Int),a = .int .i64 x∧s = .int .i64 j∧j ≤ len∧Hid (x = (2:Int) + ps j)∧Below W0.heap.size W0 wr) (fun _ s _=>len - (intOf s).toNat)
   case atStart=>exact ⟨0,(2:Int),rfl,rfl,by omega,Lib.hid (by rw [HP0.out];omega),Below.refl _ _⟩
   case round =>
    obtain ⟨j,x,rfl,rfl,hj,HX,hbr⟩:=hrel;have hbx:Below w.heap.size w wr:=hbw.trans (hbr.mono hbw.size);have hN:=HN0.out.below hbr (by have:=HSZ.out;omega);obtain ⟨x0,x1,x2,x3,x4,x5,x6,x7,x8,xz⟩:=hN;dsimp only at x0 x1 x2 x3 x4 x5 x6 x7 x8
    by_cases hlt:j < len
    ·obtain ⟨g0,o0,f',q,m,c',rfl,hg0,hC,hCall⟩:=HEl.out j hlt;have hC:=hC.same (hbx.block g0 hg0);obtain ⟨y0,y1,y2,y3,y4,y5,y6,y7,y8⟩:=hC;have HC:=Lib.hid (fun V (hb:Below wr.heap.size wr V)=>hCall V (hbx.trans (hb.mono hbx.size)));clear hCall;unfold aggV at HC;have hxj:=HX.out;have hpj:=HPb.out j (by omega);have hwj:=HWb.out j hlt;have hwr:IntKind.i64.wrap (x + ws j) = x + ws j:=IntWalk.i64_in _ (by omega);have HX2:Hid (x + ws j = (2:Int) + ps (j + 1)):=Lib.hid (by rw [HPs.out j hlt];omega);clear hxj hpj hwj;go_wp2_with fail;refine (HC.out _ (belowA (Below.refl _ wr) _)).mono ?_
     rintro e w3 ⟨rfl,hb3⟩;have hb4:=(hbr.trans ((belowA (Below.refl _ wr) _).mono hbr.size)).trans (hb3.mono (hbr.trans ((belowA (Below.refl _ wr) _).mono hbr.size)).size);go_wp2_with fail;go_roundw
     case rel=>exact ⟨j + 1,x + ws j,rfl,by go_num,by omega,HX2,hb4⟩
     case measure=>simp [intOf];omega
    ·obtain rfl:j = len:=by omega
     have hfin:x = W:=by rw [HX.out,HW.out];unfold needF;dsimp only;rw [if_pos rfl,if_neg hq]
     have HFin:=Lib.hid hfin;clear hfin;go_wp2_with fail;go_ret;exact ⟨tm.ret1 HFin.out,hbw.trans (hbr.mono hbw.size)⟩
 by_cases h9:k = 9
 ·subst h9;have hl2:=hz9 rfl;have hw9:IntKind.i64.wrap ((len:Int) - 1) = (len:Int) - 1:=IntWalk.i64_in _ (by omega);have hw9':IntKind.i64.wrap (2 * ((len:Int) - 1)) = 2 * ((len:Int) - 1):=IntWalk.i64_in _ (by omega);go_enter Tryz.func68,Tryz.ntmps68;go_wp2_with fail;obtain ⟨W0,hW0⟩:∃ x,x = w.alloc (.cells #[.int .i64 9,.int .i64 i,.int .i64 gg,.string nm,.string fn,.int .i64 ar,.slice p len c,.string by_,.int .i64 bt] 38):=⟨_,rfl⟩;have hN0:Nine W0 w.heap.size ⟨9,i,gg,nm,fn,ar,by_,bt⟩ (.slice p len c):=by rw [hW0];exact nine_of (MapKept.heap_alloc w _).1
  have hbw:Below w.heap.size w W0:=by rw [hW0];exact (Below.refl _ _).alloc (Nat.le_refl _) _
  have hsz:W0.heap.size = w.heap.size + 1:=by rw [hW0];simp
  rw [← hW0];clear hW0;have HSZ:=Lib.hid hsz;clear hsz;have HN0:=Lib.hid hN0;clear hN0;go_loopw [3,51] (fun a s wr=>∃ (j:Nat) (x:Int),a = .int .i64 x∧s = .int .i64 j∧j ≤ len∧Hid (x = (2 * ((len:Int) - 1)) + ps j)∧Below W0.heap.size W0 wr) (fun _ s _=>len - (intOf s).toNat)
  case atStart=>exact ⟨0,(2 * ((len:Int) - 1)),rfl,rfl,by omega,Lib.hid (by rw [HP0.out];omega),Below.refl _ _⟩
  case round =>
   obtain ⟨j,x,rfl,rfl,hj,HX,hbr⟩:=hrel;have hbx:Below w.heap.size w wr:=hbw.trans (hbr.mono hbw.size);have hN:=HN0.out.below hbr (by have:=HSZ.out;omega);obtain ⟨x0,x1,x2,x3,x4,x5,x6,x7,x8,xz⟩:=hN;dsimp only at x0 x1 x2 x3 x4 x5 x6 x7 x8
   by_cases hlt:j < len
   ·obtain ⟨g0,o0,f',q,m,c',rfl,hg0,hC,hCall⟩:=HEl.out j hlt;have hC:=hC.same (hbx.block g0 hg0);obtain ⟨y0,y1,y2,y3,y4,y5,y6,y7,y8⟩:=hC;have HC:=Lib.hid (fun V (hb:Below wr.heap.size wr V)=>hCall V (hbx.trans (hb.mono hbx.size)));clear hCall;unfold aggV at HC;have hxj:=HX.out;have hpj:=HPb.out j (by omega);have hwj:=HWb.out j hlt;have hwr:IntKind.i64.wrap (x + ws j) = x + ws j:=IntWalk.i64_in _ (by omega);have HX2:Hid (x + ws j = (2 * ((len:Int) - 1)) + ps (j + 1)):=Lib.hid (by rw [HPs.out j hlt];omega);clear hxj hpj hwj;go_wp2_with fail;refine (HC.out _ (belowA (Below.refl _ wr) _)).mono ?_
    rintro e w3 ⟨rfl,hb3⟩;have hb4:=(hbr.trans ((belowA (Below.refl _ wr) _).mono hbr.size)).trans (hb3.mono (hbr.trans ((belowA (Below.refl _ wr) _).mono hbr.size)).size);go_wp2_with fail;go_roundw
    case rel=>exact ⟨j + 1,x + ws j,rfl,by go_num,by omega,HX2,hb4⟩
    case measure=>simp [intOf];omega
   ·obtain rfl:j = len:=by omega
    have hfin:x = W:=by rw [HX.out,HW.out];unfold needF;dsimp only;rw [if_neg (by decide),if_pos rfl]
    have HFin:=Lib.hid hfin;clear hfin;go_wp2_with fail;go_ret;exact ⟨tm.ret1 HFin.out,hbw.trans (hbr.mono hbw.size)⟩
 by_cases h7:k = 7
 ·subst h7;have hw9:IntKind.i64.wrap (1 + (len:Int)) = 1 + (len:Int):=IntWalk.i64_in _ (by omega);go_enter Tryz.func68,Tryz.ntmps68;go_wp2_with fail;obtain ⟨W0,hW0⟩:∃ x,x = w.alloc (.cells #[.int .i64 7,.int .i64 i,.int .i64 gg,.string nm,.string fn,.int .i64 ar,.slice p len c,.string by_,.int .i64 bt] 38):=⟨_,rfl⟩;have hN0:Nine W0 w.heap.size ⟨7,i,gg,nm,fn,ar,by_,bt⟩ (.slice p len c):=by rw [hW0];exact nine_of (MapKept.heap_alloc w _).1
  have hbw:Below w.heap.size w W0:=by rw [hW0];exact (Below.refl _ _).alloc (Nat.le_refl _) _
  have hsz:W0.heap.size = w.heap.size + 1:=by rw [hW0];simp
  rw [← hW0];clear hW0;have HSZ:=Lib.hid hsz;clear hsz;have HN0:=Lib.hid hN0;clear hN0;go_loopw [3,51] (fun a s wr=>∃ (j:Nat) (x:Int),a = .int .i64 x∧s = .int .i64 j∧j ≤ len∧Hid (x = (1 + (len:Int)) + ps j)∧Below W0.heap.size W0 wr) (fun _ s _=>len - (intOf s).toNat)
  case atStart=>exact ⟨0,(1 + (len:Int)),rfl,rfl,by omega,Lib.hid (by rw [HP0.out];omega),Below.refl _ _⟩
  case round =>
   obtain ⟨j,x,rfl,rfl,hj,HX,hbr⟩:=hrel;have hbx:Below w.heap.size w wr:=hbw.trans (hbr.mono hbw.size);have hN:=HN0.out.below hbr (by have:=HSZ.out;omega);obtain ⟨x0,x1,x2,x3,x4,x5,x6,x7,x8,xz⟩:=hN;dsimp only at x0 x1 x2 x3 x4 x5 x6 x7 x8
   by_cases hlt:j < len
   ·obtain ⟨g0,o0,f',q,m,c',rfl,hg0,hC,hCall⟩:=HEl.out j hlt;have hC:=hC.same (hbx.block g0 hg0);obtain ⟨y0,y1,y2,y3,y4,y5,y6,y7,y8⟩:=hC;have HC:=Lib.hid (fun V (hb:Below wr.heap.size wr V)=>hCall V (hbx.trans (hb.mono hbx.size)));clear hCall;unfold aggV at HC;have hxj:=HX.out;have hpj:=HPb.out j (by omega);have hwj:=HWb.out j hlt;have hwr:IntKind.i64.wrap (x + ws j) = x + ws j:=IntWalk.i64_in _ (by omega);have HX2:Hid (x + ws j = (1 + (len:Int)) + ps (j + 1)):=Lib.hid (by rw [HPs.out j hlt];omega);clear hxj hpj hwj;go_wp2_with fail;refine (HC.out _ (belowA (Below.refl _ wr) _)).mono ?_
    rintro e w3 ⟨rfl,hb3⟩;have hb4:=(hbr.trans ((belowA (Below.refl _ wr) _).mono hbr.size)).trans (hb3.mono (hbr.trans ((belowA (Below.refl _ wr) _).mono hbr.size)).size);go_wp2_with fail;go_roundw
    case rel=>exact ⟨j + 1,x + ws j,rfl,by go_num,by omega,HX2,hb4⟩
    case measure=>simp [intOf];omega
   ·obtain rfl:j = len:=by omega
    have hfin:x = W:=by rw [HX.out,HW.out];unfold needF;dsimp only;rw [if_neg (by decide),if_neg (by decide),if_pos rfl]
    have HFin:=Lib.hid hfin;clear hfin;go_wp2_with fail;go_ret;exact ⟨tm.ret1 HFin.out,hbw.trans (hbr.mono hbw.size)⟩
 by_cases h4:k = 4
 ·subst h4;have hw9:IntKind.i64.wrap (5 + (len:Int)) = 5 + (len:Int):=IntWalk.i64_in _ (by omega);go_enter Tryz.func68,Tryz.ntmps68;go_wp2_with fail;obtain ⟨W0,hW0⟩:∃ x,x = w.alloc (.cells #[.int .i64 4,.int .i64 i,.int .i64 gg,.string nm,.string fn,.int .i64 ar,.slice p len c,.string by_,.int .i64 bt] 38):=⟨_,rfl⟩;have hN0:Nine W0 w.heap.size ⟨4,i,gg,nm,fn,ar,by_,bt⟩ (.slice p len c):=by rw [hW0];exact nine_of (MapKept.heap_alloc w _).1
  have hbw:Below w.heap.size w W0:=by rw [hW0];exact (Below.refl _ _).alloc (Nat.le_refl _) _
  have hsz:W0.heap.size = w.heap.size + 1:=by rw [hW0];simp
  rw [← hW0];clear hW0;have HSZ:=Lib.hid hsz;clear hsz;have HN0:=Lib.hid hN0;clear hN0;go_loopw [3,51] (fun a s wr=>∃ (j:Nat) (x:Int),a = .int .i64 x∧s = .int .i64 j∧j ≤ len∧Hid (x = (5 + (len:Int)) + ps j)∧Below W0.heap.size W0 wr) (fun _ s _=>len - (intOf s).toNat)
  case atStart=>exact ⟨0,(5 + (len:Int)),rfl,rfl,by omega,Lib.hid (by rw [HP0.out];omega),Below.refl _ _⟩
  case round =>
   obtain ⟨j,x,rfl,rfl,hj,HX,hbr⟩:=hrel;have hbx:Below w.heap.size w wr:=hbw.trans (hbr.mono hbw.size);have hN:=HN0.out.below hbr (by have:=HSZ.out;omega);obtain ⟨x0,x1,x2,x3,x4,x5,x6,x7,x8,xz⟩:=hN;dsimp only at x0 x1 x2 x3 x4 x5 x6 x7 x8
   by_cases hlt:j < len
   ·obtain ⟨g0,o0,f',q,m,c',rfl,hg0,hC,hCall⟩:=HEl.out j hlt;have hC:=hC.same (hbx.block g0 hg0);obtain ⟨y0,y1,y2,y3,y4,y5,y6,y7,y8⟩:=hC;have HC:=Lib.hid (fun V (hb:Below wr.heap.size wr V)=>hCall V (hbx.trans (hb.mono hbx.size)));clear hCall;unfold aggV at HC;have hxj:=HX.out;have hpj:=HPb.out j (by omega);have hwj:=HWb.out j hlt;have hwr:IntKind.i64.wrap (x + ws j) = x + ws j:=IntWalk.i64_in _ (by omega);have HX2:Hid (x + ws j = (5 + (len:Int)) + ps (j + 1)):=Lib.hid (by rw [HPs.out j hlt];omega);clear hxj hpj hwj;go_wp2_with fail;refine (HC.out _ (belowA (Below.refl _ wr) _)).mono ?_
    rintro e w3 ⟨rfl,hb3⟩;have hb4:=(hbr.trans ((belowA (Below.refl _ wr) _).mono hbr.size)).trans (hb3.mono (hbr.trans ((belowA (Below.refl _ wr) _).mono hbr.size)).size);go_wp2_with fail;go_roundw
    case rel=>exact ⟨j + 1,x + ws j,rfl,by go_num,by omega,HX2,hb4⟩
    case measure=>simp [intOf];omega
   ·obtain rfl:j = len:=by omega
    have hfin:x = W:=by rw [HX.out,HW.out];unfold needF;dsimp only;rw [if_neg (by decide),if_neg (by decide),if_neg (by decide),if_pos rfl]
    have HFin:=Lib.hid hfin;clear hfin;go_wp2_with fail;go_ret;exact ⟨tm.ret1 HFin.out,hbw.trans (hbr.mono hbw.size)⟩
 by_cases h5:k = 5
 ·subst h5;go_enter Tryz.func68,Tryz.ntmps68;go_wp2_with fail;obtain ⟨W0,hW0⟩:∃ x,x = w.alloc (.cells #[.int .i64 5,.int .i64 i,.int .i64 gg,.string nm,.string fn,.int .i64 ar,.slice p len c,.string by_,.int .i64 bt] 38):=⟨_,rfl⟩;have hN0:Nine W0 w.heap.size ⟨5,i,gg,nm,fn,ar,by_,bt⟩ (.slice p len c):=by rw [hW0];exact nine_of (MapKept.heap_alloc w _).1
  have hbw:Below w.heap.size w W0:=by rw [hW0];exact (Below.refl _ _).alloc (Nat.le_refl _) _
  have hsz:W0.heap.size = w.heap.size + 1:=by rw [hW0];simp
  rw [← hW0];clear hW0;have HSZ:=Lib.hid hsz;clear hsz;have HN0:=Lib.hid hN0;clear hN0;go_loopw [3,51] (fun a s wr=>∃ (j:Nat) (x:Int),a = .int .i64 x∧s = .int .i64 j∧j ≤ len∧Hid (x = (4:Int) + ps j)∧Below W0.heap.size W0 wr) (fun _ s _=>len - (intOf s).toNat)
  case atStart=>exact ⟨0,(4:Int),rfl,rfl,by omega,Lib.hid (by rw [HP0.out];omega),Below.refl _ _⟩
  case round =>
   obtain ⟨j,x,rfl,rfl,hj,HX,hbr⟩:=hrel;have hbx:Below w.heap.size w wr:=hbw.trans (hbr.mono hbw.size);have hN:=HN0.out.below hbr (by have:=HSZ.out;omega);obtain ⟨x0,x1,x2,x3,x4,x5,x6,x7,x8,xz⟩:=hN;dsimp only at x0 x1 x2 x3 x4 x5 x6 x7 x8
   by_cases hlt:j < len
   ·obtain ⟨g0,o0,f',q,m,c',rfl,hg0,hC,hCall⟩:=HEl.out j hlt;have hC:=hC.same (hbx.block g0 hg0);obtain ⟨y0,y1,y2,y3,y4,y5,y6,y7,y8⟩:=hC;have HC:=Lib.hid (fun V (hb:Below wr.heap.size wr V)=>hCall V (hbx.trans (hb.mono hbx.size)));clear hCall;unfold aggV at HC;have hxj:=HX.out;have hpj:=HPb.out j (by omega);have hwj:=HWb.out j hlt;have hwr:IntKind.i64.wrap (x + ws j) = x + ws j:=IntWalk.i64_in _ (by omega);have HX2:Hid (x + ws j = (4:Int) + ps (j + 1)):=Lib.hid (by rw [HPs.out j hlt];omega);clear hxj hpj hwj;go_wp2_with fail;refine (HC.out _ (belowA (Below.refl _ wr) _)).mono ?_
    rintro e w3 ⟨rfl,hb3⟩;have hb4:=(hbr.trans ((belowA (Below.refl _ wr) _).mono hbr.size)).trans (hb3.mono (hbr.trans ((belowA (Below.refl _ wr) _).mono hbr.size)).size);go_wp2_with fail;go_roundw
    case rel=>exact ⟨j + 1,x + ws j,rfl,by go_num,by omega,HX2,hb4⟩
    case measure=>simp [intOf];omega
   ·obtain rfl:j = len:=by omega
    have hfin:x = W:=by rw [HX.out,HW.out];unfold needF;dsimp only;rw [if_neg (by decide),if_neg (by decide),if_neg (by decide),if_neg (by decide),if_pos (by decide)]
    have HFin:=Lib.hid hfin;clear hfin;go_wp2_with fail;go_ret;exact ⟨tm.ret1 HFin.out,hbw.trans (hbr.mono hbw.size)⟩
 by_cases h6:k = 6
 ·subst h6;go_enter Tryz.func68,Tryz.ntmps68;go_wp2_with fail;obtain ⟨W0,hW0⟩:∃ x,x = w.alloc (.cells #[.int .i64 6,.int .i64 i,.int .i64 gg,.string nm,.string fn,.int .i64 ar,.slice p len c,.string by_,.int .i64 bt] 38):=⟨_,rfl⟩;have hN0:Nine W0 w.heap.size ⟨6,i,gg,nm,fn,ar,by_,bt⟩ (.slice p len c):=by rw [hW0];exact nine_of (MapKept.heap_alloc w _).1
  have hbw:Below w.heap.size w W0:=by rw [hW0];exact (Below.refl _ _).alloc (Nat.le_refl _) _
  have hsz:W0.heap.size = w.heap.size + 1:=by rw [hW0];simp
  rw [← hW0];clear hW0;have HSZ:=Lib.hid hsz;clear hsz;have HN0:=Lib.hid hN0;clear hN0;go_loopw [3,51] (fun a s wr=>∃ (j:Nat) (x:Int),a = .int .i64 x∧s = .int .i64 j∧j ≤ len∧Hid (x = (4:Int) + ps j)∧Below W0.heap.size W0 wr) (fun _ s _=>len - (intOf s).toNat)
  case atStart=>exact ⟨0,(4:Int),rfl,rfl,by omega,Lib.hid (by rw [HP0.out];omega),Below.refl _ _⟩
  case round =>
   obtain ⟨j,x,rfl,rfl,hj,HX,hbr⟩:=hrel;have hbx:Below w.heap.size w wr:=hbw.trans (hbr.mono hbw.size);have hN:=HN0.out.below hbr (by have:=HSZ.out;omega);obtain ⟨x0,x1,x2,x3,x4,x5,x6,x7,x8,xz⟩:=hN;dsimp only at x0 x1 x2 x3 x4 x5 x6 x7 x8
   by_cases hlt:j < len
   ·obtain ⟨g0,o0,f',q,m,c',rfl,hg0,hC,hCall⟩:=HEl.out j hlt;have hC:=hC.same (hbx.block g0 hg0);obtain ⟨y0,y1,y2,y3,y4,y5,y6,y7,y8⟩:=hC;have HC:=Lib.hid (fun V (hb:Below wr.heap.size wr V)=>hCall V (hbx.trans (hb.mono hbx.size)));clear hCall;unfold aggV at HC;have hxj:=HX.out;have hpj:=HPb.out j (by omega);have hwj:=HWb.out j hlt;have hwr:IntKind.i64.wrap (x + ws j) = x + ws j:=IntWalk.i64_in _ (by omega);have HX2:Hid (x + ws j = (4:Int) + ps (j + 1)):=Lib.hid (by rw [HPs.out j hlt];omega);clear hxj hpj hwj;go_wp2_with fail;refine (HC.out _ (belowA (Below.refl _ wr) _)).mono ?_
    rintro e w3 ⟨rfl,hb3⟩;have hb4:=(hbr.trans ((belowA (Below.refl _ wr) _).mono hbr.size)).trans (hb3.mono (hbr.trans ((belowA (Below.refl _ wr) _).mono hbr.size)).size);go_wp2_with fail;go_roundw
    case rel=>exact ⟨j + 1,x + ws j,rfl,by go_num,by omega,HX2,hb4⟩
    case measure=>simp [intOf];omega
   ·obtain rfl:j = len:=by omega
    have hfin:x = W:=by rw [HX.out,HW.out];unfold needF;dsimp only;rw [if_neg (by decide),if_neg (by decide),if_neg (by decide),if_neg (by decide),if_pos (by decide)]
    have HFin:=Lib.hid hfin;clear hfin;go_wp2_with fail;go_ret;exact ⟨tm.ret1 HFin.out,hbw.trans (hbr.mono hbw.size)⟩
 by_cases h3:k = 3
 ·subst h3;go_enter Tryz.func68,Tryz.ntmps68;go_wp2_with fail;obtain ⟨W0,hW0⟩:∃ x,x = w.alloc (.cells #[.int .i64 3,.int .i64 i,.int .i64 gg,.string nm,.string fn,.int .i64 ar,.slice p len c,.string by_,.int .i64 bt] 38):=⟨_,rfl⟩;have hN0:Nine W0 w.heap.size ⟨3,i,gg,nm,fn,ar,by_,bt⟩ (.slice p len c):=by rw [hW0];exact nine_of (MapKept.heap_alloc w _).1
  have hbw:Below w.heap.size w W0:=by rw [hW0];exact (Below.refl _ _).alloc (Nat.le_refl _) _
  have hsz:W0.heap.size = w.heap.size + 1:=by rw [hW0];simp
  rw [← hW0];clear hW0;have HSZ:=Lib.hid hsz;clear hsz;have HN0:=Lib.hid hN0;clear hN0;go_loopw [3,51] (fun a s wr=>∃ (j:Nat) (x:Int),a = .int .i64 x∧s = .int .i64 j∧j ≤ len∧Hid (x = (4:Int) + ps j)∧Below W0.heap.size W0 wr) (fun _ s _=>len - (intOf s).toNat)
  case atStart=>exact ⟨0,(4:Int),rfl,rfl,by omega,Lib.hid (by rw [HP0.out];omega),Below.refl _ _⟩
  case round =>
   obtain ⟨j,x,rfl,rfl,hj,HX,hbr⟩:=hrel;have hbx:Below w.heap.size w wr:=hbw.trans (hbr.mono hbw.size);have hN:=HN0.out.below hbr (by have:=HSZ.out;omega);obtain ⟨x0,x1,x2,x3,x4,x5,x6,x7,x8,xz⟩:=hN;dsimp only at x0 x1 x2 x3 x4 x5 x6 x7 x8
   by_cases hlt:j < len
   ·obtain ⟨g0,o0,f',q,m,c',rfl,hg0,hC,hCall⟩:=HEl.out j hlt;have hC:=hC.same (hbx.block g0 hg0);obtain ⟨y0,y1,y2,y3,y4,y5,y6,y7,y8⟩:=hC;have HC:=Lib.hid (fun V (hb:Below wr.heap.size wr V)=>hCall V (hbx.trans (hb.mono hbx.size)));clear hCall;unfold aggV at HC;have hxj:=HX.out;have hpj:=HPb.out j (by omega);have hwj:=HWb.out j hlt;have hwr:IntKind.i64.wrap (x + ws j) = x + ws j:=IntWalk.i64_in _ (by omega);have HX2:Hid (x + ws j = (4:Int) + ps (j + 1)):=Lib.hid (by rw [HPs.out j hlt];omega);clear hxj hpj hwj;go_wp2_with fail;refine (HC.out _ (belowA (Below.refl _ wr) _)).mono ?_
    rintro e w3 ⟨rfl,hb3⟩;have hb4:=(hbr.trans ((belowA (Below.refl _ wr) _).mono hbr.size)).trans (hb3.mono (hbr.trans ((belowA (Below.refl _ wr) _).mono hbr.size)).size);go_wp2_with fail;go_roundw
    case rel=>exact ⟨j + 1,x + ws j,rfl,by go_num,by omega,HX2,hb4⟩
    case measure=>simp [intOf];omega
   ·obtain rfl:j = len:=by omega
    have hfin:x = W:=by rw [HX.out,HW.out];unfold needF;dsimp only;rw [if_neg (by decide),if_neg (by decide),if_neg (by decide),if_neg (by decide),if_pos (by decide)]
    have HFin:=Lib.hid hfin;clear hfin;go_wp2_with fail;go_ret;exact ⟨tm.ret1 HFin.out,hbw.trans (hbr.mono hbw.size)⟩
 by_cases h10:k = 10
 ·subst h10;obtain ⟨hb1,hb2⟩:=hz10 rfl;have HBW:=Lib.hid (fun W=>bitWords71 W bt hb1 (by omega));have hs0:0 ≤ (if 512 < bt then (4:Int) else 2 + (bt + 63) / 64)∧(if 512 < bt then (4:Int) else 2 + (bt + 63) / 64) ≤ 1000:=by split <;> omega
  obtain ⟨s0,hs⟩:∃ s0,(if 512 < bt then (4:Int) else 2 + (bt + 63) / 64) = s0:=⟨_,rfl⟩;have HS0:=Lib.hid hs;rw [hs] at HBW hs0;clear hs;go_enter Tryz.func68,Tryz.ntmps68;go_wp2_with fail;refine (HBW.out _).mono ?_;rintro e w' ⟨rfl,rfl⟩;go_wp2_with fail;obtain ⟨W0,hW0⟩:∃ x,x = w.alloc (.cells #[.int .i64 10,.int .i64 i,.int .i64 gg,.string nm,.string fn,.int .i64 ar,.slice p len c,.string by_,.int .i64 bt] 38):=⟨_,rfl⟩;have hN0:Nine W0 w.heap.size ⟨10,i,gg,nm,fn,ar,by_,bt⟩ (.slice p len c):=by rw [hW0];exact nine_of (MapKept.heap_alloc w _).1
  have hbw:Below w.heap.size w W0:=by rw [hW0];exact (Below.refl _ _).alloc (Nat.le_refl _) _
  have hsz:W0.heap.size = w.heap.size + 1:=by rw [hW0];simp
  rw [← hW0];clear hW0;have HSZ:=Lib.hid hsz;clear hsz;have HN0:=Lib.hid hN0;clear hN0;go_loopw [3,51] (fun a s wr=>∃ (j:Nat) (x:Int),a = .int .i64 x∧s = .int .i64 j∧j ≤ len∧Hid (x = s0 + ps j)∧Below W0.heap.size W0 wr) (fun _ s _=>len - (intOf s).toNat)
  case atStart=>exact ⟨0,s0,rfl,rfl,by omega,Lib.hid (by rw [HP0.out];omega),Below.refl _ _⟩
  case round =>
   obtain ⟨j,x,rfl,rfl,hj,HX,hbr⟩:=hrel;have hbx:Below w.heap.size w wr:=hbw.trans (hbr.mono hbw.size);have hN:=HN0.out.below hbr (by have:=HSZ.out;omega);obtain ⟨x0,x1,x2,x3,x4,x5,x6,x7,x8,xz⟩:=hN;dsimp only at x0 x1 x2 x3 x4 x5 x6 x7 x8
   by_cases hlt:j < len
   ·obtain ⟨g0,o0,f',q,m,c',rfl,hg0,hC,hCall⟩:=HEl.out j hlt;have hC:=hC.same (hbx.block g0 hg0);obtain ⟨y0,y1,y2,y3,y4,y5,y6,y7,y8⟩:=hC;have HC:=Lib.hid (fun V (hb:Below wr.heap.size wr V)=>hCall V (hbx.trans (hb.mono hbx.size)));clear hCall;unfold aggV at HC;have hxj:=HX.out;have hpj:=HPb.out j (by omega);have hwj:=HWb.out j hlt;have hwr:IntKind.i64.wrap (x + ws j) = x + ws j:=IntWalk.i64_in _ (by omega);have HX2:Hid (x + ws j = s0 + ps (j + 1)):=Lib.hid (by rw [HPs.out j hlt];omega);clear hxj hpj hwj;go_wp2_with fail;refine (HC.out _ (belowA (Below.refl _ wr) _)).mono ?_
    rintro e w3 ⟨rfl,hb3⟩;have hb4:=(hbr.trans ((belowA (Below.refl _ wr) _).mono hbr.size)).trans (hb3.mono (hbr.trans ((belowA (Below.refl _ wr) _).mono hbr.size)).size);go_wp2_with fail;go_roundw
    case rel=>exact ⟨j + 1,x + ws j,rfl,by go_num,by omega,HX2,hb4⟩
    case measure=>simp [intOf];omega
   ·obtain rfl:j = len:=by omega
    have hfin:x = W:=by rw [HX.out,HW.out];unfold needF;dsimp only;rw [if_neg (by decide),if_neg (by decide),if_neg (by decide),if_neg (by decide),if_neg (by decide),if_pos rfl,HS0.out]
    have HFin:=Lib.hid hfin;clear hfin;go_wp2_with fail;go_ret;exact ⟨tm.ret1 HFin.out,hbw.trans (hbr.mono hbw.size)⟩
 ·have q1:(k == 1) = false:=by simp [h1]
  have q9:(k == 9) = false:=by simp [h9]
  have q7:(k == 7) = false:=by simp [h7]
  have q4:(k == 4) = false:=by simp [h4]
  have q5:(k == 5) = false:=by simp [h5]
  have q6:(k == 6) = false:=by simp [h6]
  have q3:(k == 3) = false:=by simp [h3]
  have q10:(k == 10) = false:=by simp [h10]
  go_enter Tryz.func68,Tryz.ntmps68;go_wp2_with fail;obtain ⟨W0,hW0⟩:∃ x,x = w.alloc (.cells #[.int .i64 k,.int .i64 i,.int .i64 gg,.string nm,.string fn,.int .i64 ar,.slice p len c,.string by_,.int .i64 bt] 38):=⟨_,rfl⟩;have hN0:Nine W0 w.heap.size ⟨k,i,gg,nm,fn,ar,by_,bt⟩ (.slice p len c):=by rw [hW0];exact nine_of (MapKept.heap_alloc w _).1
  have hbw:Below w.heap.size w W0:=by rw [hW0];exact (Below.refl _ _).alloc (Nat.le_refl _) _
  have hsz:W0.heap.size = w.heap.size + 1:=by rw [hW0];simp
  rw [← hW0];clear hW0;have HSZ:=Lib.hid hsz;clear hsz;have HN0:=Lib.hid hN0;clear hN0;go_loopw [3,51] (fun a s wr=>∃ (j:Nat) (x:Int),a = .int .i64 x∧s = .int .i64 j∧j ≤ len∧Hid (x = (0:Int) + ps j)∧Below W0.heap.size W0 wr) (fun _ s _=>len - (intOf s).toNat)
  case atStart=>exact ⟨0,(0:Int),rfl,rfl,by omega,Lib.hid (by rw [HP0.out];omega),Below.refl _ _⟩
  case round =>
   obtain ⟨j,x,rfl,rfl,hj,HX,hbr⟩:=hrel;have hbx:Below w.heap.size w wr:=hbw.trans (hbr.mono hbw.size);have hN:=HN0.out.below hbr (by have:=HSZ.out;omega);obtain ⟨x0,x1,x2,x3,x4,x5,x6,x7,x8,xz⟩:=hN;dsimp only at x0 x1 x2 x3 x4 x5 x6 x7 x8
   by_cases hlt:j < len
   ·obtain ⟨g0,o0,f',q,m,c',rfl,hg0,hC,hCall⟩:=HEl.out j hlt;have hC:=hC.same (hbx.block g0 hg0);obtain ⟨y0,y1,y2,y3,y4,y5,y6,y7,y8⟩:=hC;have HC:=Lib.hid (fun V (hb:Below wr.heap.size wr V)=>hCall V (hbx.trans (hb.mono hbx.size)));clear hCall;unfold aggV at HC;have hxj:=HX.out;have hpj:=HPb.out j (by omega);have hwj:=HWb.out j hlt;have hwr:IntKind.i64.wrap (x + ws j) = x + ws j:=IntWalk.i64_in _ (by omega);have HX2:Hid (x + ws j = (0:Int) + ps (j + 1)):=Lib.hid (by rw [HPs.out j hlt];omega);clear hxj hpj hwj;go_wp2_with fail;refine (HC.out _ (belowA (Below.refl _ wr) _)).mono ?_
    rintro e w3 ⟨rfl,hb3⟩;have hb4:=(hbr.trans ((belowA (Below.refl _ wr) _).mono hbr.size)).trans (hb3.mono (hbr.trans ((belowA (Below.refl _ wr) _).mono hbr.size)).size);go_wp2_with fail;go_roundw
    case rel=>exact ⟨j + 1,x + ws j,rfl,by go_num,by omega,HX2,hb4⟩
    case measure=>simp [intOf];omega
   ·obtain rfl:j = len:=by omega
    have hfin:x = W:=by rw [HX.out,HW.out];unfold needF;dsimp only;rw [if_neg h1,if_neg h9,if_neg h7,if_neg h4,if_neg (fun e=>e.elim h5 (fun e=>e.elim h6 h3)),if_neg h10]
    have HFin:=Lib.hid hfin;clear hfin;go_wp2_with fail;go_ret;exact ⟨tm.ret1 HFin.out,hbw.trans (hbr.mono hbw.size)⟩
theorem needAll:∀ n,NeedS n
 | 0=>needStep (fun m h=>by omega)
 | n + 1=>needStep (fun m h=>by (obtain rfl:n = m:=(by omega));exact needAll n)
end Go.Proofs.YtpnlnbolhkcnjaaGreat.hp
