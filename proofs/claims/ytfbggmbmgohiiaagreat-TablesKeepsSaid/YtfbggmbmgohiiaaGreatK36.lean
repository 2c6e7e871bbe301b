/- Texts of this seat, one behind the other: TcA, Skip, TcB. No condition beyond theirs. -/
import Derived.Test.YtfbggmbmgohiiaaGreatK35
import Derived.Test.YtfbggmbmgohiiaaGreatK30
import Derived.OrdersHeld
import Derived.KernelRfl
set_option linter.unusedSimpArgs false
set_option linter.unusedVariables false
set_option maxHeartbeats 1000000
set_option maxRecDepth 100000
namespace Go.Proofs.YtfbggmbmgohiiaaGreat.tb
open Go.RowKit mem rec tm names
section
variable {N:Nat} {w w':World} {B:Nat} {F F':Nat→Prop} {s:TbSt N}
theorem F_ty (h:TbAt w B F s) {g:Nat} (hg:F g):tyOf w g = some 24:=by
 obtain ⟨cur,M,h1,_⟩:=h.ty g hg
 exact tyOf_of h1
theorem ty_ne {k k':Nat} {a b:TypeId} (h1:tyOf w k = some a) (h2:tyOf w k' = some b) (hne:a ≠ b):k ≠ k':=fun e=>by
 rw [e,h2] at h1
 exact hne (Option.some.inj h1).symm
theorem TbAt.upd (h:TbAt w B F s) {i:Nat} {t t':TabE N} (hi:s.tabs[i]? = some t) (hT:TouchB (fun k=>k = t.b∨t.vr.ownBlock = some k) w w') (hb:t'.b = t.b) (h':TabAt w' B F' t') (hv:∀ k,t'.vr.ownBlock = some k→t.vr.ownBlock = some k∨w.heap.size ≤ k)
 (hF:∀ g,F g→F' g) (hty:Typed w' F') (hfl:∀ g,F' g→g < w'.heap.size):TbAt w' B F' { s with tabs:=s.tabs.set i t' }:=by
 have hti:=h.tabs t (List.mem_of_getElem? hi)
 have hsame:∀ k,k < w.heap.size→k ≠ t.b→t.vr.ownBlock ≠ some k→w'.heap[k]? = w.heap[k]?:=fun k hk h1 h2=>hT.block k hk (fun e=>by rcases e with e | e;exact h1 e;exact h2 e)
 have htb:=tyOf_of hti.blk
 have hvr:∀ k,t.vr.ownBlock = some k→tyOf w k = some 108:=fun k hk=>ownTy hti.rows hk
 have hSty:∀ k a,k < w.heap.size→tyOf w k = some a→a ≠ 98→a ≠ 108→w'.heap[k]? = w.heap[k]?:=fun k a hk ha h1 h2=>hsame k hk (ty_ne ha htb h1) (fun e=>ty_ne ha (hvr k e) h2 rfl)
 have hFs:∀ g,F g→w'.heap[g]? = w.heap[g]?:=fun g hg=>hSty g 24 (h.fl g hg) (F_ty h hg) (by decide) (by decide)
 have hlt:i < s.tabs.length:=(List.getElem?_eq_some_iff.1 hi).1
 have hset:∀ j u,(s.tabs.set i t')[j]? = some u→(j = i∧u = t')∨(j ≠ i∧s.tabs[j]? = some u):=fun j u hj=>by
  by_cases e:i = j
  ·subst e
   rw [List.getElem?_set_self hlt] at hj
   exact .inl ⟨rfl,(Option.some.inj hj).symm⟩
  ·rw [List.getElem?_set_ne e] at hj
   exact .inr ⟨fun e'=>e e'.symm,hj⟩
 have hbs:(s.tabs.set i t').map (·.b) = s.tabs.map (·.b):=by
  refine List.ext_getElem? fun j=>?_
  rw [List.getElem?_map,List.getElem?_map,List.getElem?_set]
  by_cases e:i = j
  ·subst e;rw [if_pos rfl,if_pos hlt,hi];simp [hb]
  ·rw [if_neg e]
 refine ⟨(hSty _ 74 h.zlt (tyOf_of h.obj) (by decide) (by decide)).trans h.obj,?_,fun u hu=>?_,by rw [hbs];exact h.nd,fun j k tj tk hj hk hne q hq=>?_,h.low,hty,hfl⟩
 ·show RecOwn ptrL 89 1 w' B s.vl ((s.tabs.set i t').map (·.b))
  rw [hbs]
  exact h.l.same (fun k hk=>hSty k 89 (h.l.lt hk).2 (ownTy h.l hk) (by decide) (by decide))
 ·obtain ⟨j,hj⟩:=List.mem_iff_getElem?.1 hu
  rcases hset j u hj with ⟨_,rfl⟩ | ⟨hne,hj⟩
  ·exact h'
  ·have hu:=h.tabs u (List.mem_of_getElem? hj)
   have hne2:u.b ≠ t.b:=fun e=>by
    have h1:(s.tabs.map (·.b))[j]? = some t.b:=by rw [List.getElem?_map,hj,← e];rfl
    have h2:(s.tabs.map (·.b))[i]? = some t.b:=by rw [List.getElem?_map,hi];rfl
    have hjl:j < (s.tabs.map (·.b)).length:=(List.getElem?_eq_some_iff.1 h1).1
    exact hne ((List.getElem?_inj hjl h.nd).1 (h1.trans h2.symm))
   refine hu.same (hsame _ hu.lt hne2 (fun e=>ty_ne (tyOf_of hu.blk) (hvr _ e) (by decide) rfl)) (fun q hq=>hsame q (hu.rows.lt hq).2 (ty_ne (ownTy hu.rows hq) htb (by decide)) (h.rnd j i u t hj hi hne q hq)) hFs hF
 ·rcases hset j tj hj with ⟨rfl,rfl⟩ | ⟨hj1,hj2⟩
  ·rcases hset k tk hk with ⟨rfl,rfl⟩ | ⟨hk1,hk2⟩
   ·exact absurd rfl hne
   ·rcases hv q hq with h1 | h1
    ·exact h.rnd j k t tk hi hk2 hne q h1
    ·intro e
     have:=((h.tabs tk (List.mem_of_getElem? hk2)).rows.lt e).2
     omega
  ·rcases hset k tk hk with ⟨rfl,rfl⟩ | ⟨hk1,hk2⟩
   ·intro e
    rcases hv q e with h1 | h1
    ·exact h.rnd j k tj t hj2 hi hne q hq h1
    ·have:=((h.tabs tj (List.mem_of_getElem? hj2)).rows.lt hq).2
     omega
   ·exact h.rnd j k tj tk hj2 hk2 hne q hq
end
end Go.Proofs.YtfbggmbmgohiiaaGreat.tb
namespace Go.Proofs.YtfbggmbmgohiiaaGreat.rec
open Go
end Go.Proofs.YtfbggmbmgohiiaaGreat.rec
namespace Go.Proofs.YtfbggmbmgohiiaaGreat.tb
open Go.RowKit mem rec tm names
theorem put_seg {α:Type} {A P X0 X R:List α} {n p:Nat} (h:A.take n = P ++ X0 ++ R) (hp:P.length = p) (hX:X0.length = X.length):(put A p X).take n = P ++ X ++ R:=by
 have hl:P.length + X0.length + R.length = min n A.length:=by rw [← List.length_take,h];simp only [List.length_append]
 have e:A = P ++ X0 ++ (R ++ A.drop n):=by rw [← List.append_assoc,← h,List.take_append_drop]
 by_cases hn:n ≤ A.length
 ·rw [Nat.min_eq_left hn] at hl
  unfold put
  generalize A.drop n = D at e
  subst e
  rw [List.append_assoc P X0,List.take_left' hp,← List.append_assoc,List.drop_left' (by rw [List.length_append];omega),← List.append_assoc]
  exact List.take_left' (by simp only [List.length_append];omega)
 ·have hd:A.drop n = []:=List.drop_of_length_le (by omega)
  have hA:A.length = P.length + X0.length + R.length:=by rw [e,hd];simp only [List.length_append,List.length_nil];omega
  unfold put
  generalize A.drop n = D at e hd
  subst hd
  rw [List.append_nil] at e
  subst e
  rw [List.append_assoc P X0,List.take_left' hp,← List.append_assoc,List.drop_left' (by rw [List.length_append];omega)]
  exact List.take_of_length_le (by simp only [List.length_append] at *;omega)
structure NewI (w0 w:World) (F:Nat→Prop) (n:Nat) (u:Value) (l:List (Tm n)):Prop where
 items:ItemsIn w F n u l
 typed:Typed w F
 inr:∀ g,F g→w0.heap.size ≤ g∧g < w.heap.size
section
variable {n:Nat} {w0 w w':World} {F S:Nat→Prop} {u:Value} {l:List (Tm n)}
theorem NewI.of (h:NewAt w w' F n u l) (hw:w0.heap.size ≤ w.heap.size):NewI w0 w' F n u l:=⟨h.items,h.typed,fun g hg=>⟨Nat.le_trans hw (h.inr g hg).1,(h.inr g hg).2⟩⟩
theorem NewI.touch (h:NewI w0 w F n u l) (ht:TouchB S w w') (hS:∀ k,S k→k < w0.heap.size):NewI w0 w' F n u l:=by
 have hs:∀ g,F g→w'.heap[g]? = w.heap[g]?:=fun g hg=>ht.block g (h.inr g hg).2 (fun e=>by have:=hS g e;have:=(h.inr g hg).1;omega)
 exact ⟨h.items.mono hs (fun _ hg=>hg),h.typed.same hs,fun g hg=>⟨(h.inr g hg).1,Nat.lt_of_lt_of_le (h.inr g hg).2 ht.size⟩⟩
theorem NewI.below (h:NewI w0 w F n u l) (hb:Below w.heap.size w w'):NewI w0 w' F n u l:=h.touch (S:=fun _=>False) ((TouchB.refl _ _).ofBelow hb (Nat.le_refl _)) (fun _ f=>f.elim)
end
theorem yieldsB_cell {ops:Array Oper} {S:World→Prop} {op:Oper} {a:Act} (hw:Region.wanted op (yielded ops a.tmps) = true) (ty:TypeId) (x:Operand) (ho:op.op = .load ty x) (b o:Nat) (hx:a.eval x = .pointer (some ⟨b,o,none⟩)) (v:Value)
 (hl:∀ w a v,w.cell? a = some v→(loadVar ty a).run Tryz.prog w = .ok v w) (hS:∀ w,S w→w.cell? ⟨b,o,none⟩ = some v):YieldsIf Tryz.prog ops S op v a :=
 .inl ⟨hw,fun w hs=>by
  unfold execOp
  simp only [ho,hx,Instr.loadAt,Instr.sureAddr,Sem.run_bind,Sem.run_pure,Result.andThen_ok,hl w _ v (hS w hs)]⟩
theorem ld96 (w:World) (a:Addr) (v:Value) (h:w.cell? a = some v):(loadVar 96 a).run Tryz.prog w = .ok v w:=by
 go_simp
theorem st96 (w:World) (a:Addr) (v0 v:Value) (hv:v.oneCell' = true) (h:w.cell? a = some v0) (hf:w.frozen? a = false):(storeVar 96 a v).run Tryz.prog w = .ok () (w.setCell a v):=by
 have hi:(Tryz.prog.info? 96).map (·.size) = some 1:=by kernel_rfl
 cases hq:Tryz.prog.info? 96 with
 | none=>simp [hq] at hi
 | some ie =>
  have hs:ie.size = 1:=by simpa [hq] using hi
  have hc:v.cells = #[v]:=by cases v <;> first | rfl | simp [Value.oneCell'] at hv
  have ha:a.add 0 = a:=by cases a;simp [Addr.add]
  simp [storeVar,hc,sizeOf,typeInfo,hq,hs,storeCells,run_store Tryz.prog _ _ v _ hv,ha,h,hf,Result.andThen]
theorem step_store_run {w w':World} {ops:Array Oper} {o:Oper} {a:Act} {K:Act→World→Prop} {Q:Exit→Act→World→Prop} {E:Prop} (hw:Region.wanted o (yielded ops a.tmps) = true) (ty:TypeId) (x y:Operand)
 (ho:o.op = .store ty x y) {p:Addr} {v:Value} (hx:a.eval x = .pointer (some p)) (hy:a.eval y = v) (hr:(storeVar ty p v).run Tryz.prog w = .ok () w')
 (hK:K (a.put o.dst undef) w'):if Region.wanted o (yielded ops a.tmps) = true then Oper.wp Tryz.prog o a w K Q else E:=by
 rw [if_pos hw]
 unfold Oper.wp execOp
 simp only [ho,hx,hy,Instr.storeAt,Instr.sureAddr,Sem.run_bind,Sem.run_pure,Result.andThen_ok,hr]
 exact hK
section
variable {N:Nat} {w:World} {B:Nat} {vr:Value} {l:List (RowE N)}
theorem row_split {i:Nat} (hi:i < l.length):l.flatMap rowL = ((l.take i).flatMap rowL ++ nineL l[i].k.f l[i].uk) ++ nineL l[i].v.f l[i].uv ++ ([.int .u32 l[i].h] ++ (l.drop (i + 1)).flatMap rowL):=by
 have e:l = l.take i ++ l[i] :: l.drop (i + 1):=by rw [List.getElem_cons_drop,List.take_append_drop]
 conv=>lhs;rw [e]
 rw [List.flatMap_append,List.flatMap_cons]
 unfold rowL
 simp only [List.append_assoc]
theorem setv_split {i:Nat} (hi:i < l.length) (v:Tm (N + 1)) (u:Value):(l.set i { l[i] with v:=v,uv:=u }).flatMap rowL = ((l.take i).flatMap rowL ++ nineL l[i].k.f l[i].uk) ++ nineL v.f u ++ ([.int .u32 l[i].h] ++ (l.drop (i + 1)).flatMap rowL):=by
 rw [List.set_eq_take_append_cons_drop,if_pos hi,List.flatMap_append,List.flatMap_cons]
 unfold rowL
 simp only [List.append_assoc]
theorem store_row (hown:RecOwn rowL 108 19 w B vr l) (hE:EncOK rowL 19 l) {i:Nat} (hi:i < l.length) {g:Nat} {n c:Nat} (hvr:vr = .slice (some ⟨g,0,none⟩) n c) (v:Tm (N + 1)) {u:Value} (hu:u.oneCell' = true) :
 ∃ w',(storeVar 24 ⟨g,i * 19 + 9,none⟩ (aggV v.f u)).run Tryz.prog w = .ok () w'∧RecOwn rowL 108 19 w' B vr (l.set i { l[i] with v:=v,uv:=u })∧TouchB (fun k=>vr.ownBlock = some k) w w':=by
 obtain ⟨g',cap,cur,hv,hbg,hg,hnc,hcm,hcs,htk⟩:=own_parts hown (by omega)
 subst hvr
 simp only [Value.slice.injEq,Option.some.injEq,Addr.mk.injEq,and_true,true_and] at hv
 obtain ⟨rfl,rfl,rfl⟩:=hv
 have hlen:(nineL v.f u).length = 9:=rfl
 have hcl:cur.toList.length = c * 19:=by rw [Array.length_toList];exact hcs
 have hst:=run_storeCells_at Tryz.prog g (i * 19 + 9) 108 (nineL v.f u) 0 cur w hg (by rw [hlen,hcs];omega) (nineL_one hu)
 simp only [Nat.add_zero] at hst
 have hi24:(Tryz.prog.info? 24).map (·.size) = some 9:=by kernel_rfl
 have hP:((l.take i).flatMap rowL ++ nineL l[i].k.f l[i].uk).length = i * 19 + 9:=by
  rw [List.length_append,flat_len (hE.sub (fun a ha=>List.mem_of_mem_take ha)),List.length_take,Nat.min_eq_left (by omega)]
  rfl
 have htk2:cur.toList.take (l.length * 19) = ((l.take i).flatMap rowL ++ nineL l[i].k.f l[i].uk) ++ nineL l[i].v.f l[i].uv ++ ([.int .u32 l[i].h] ++ (l.drop (i + 1)).flatMap rowL):=htk.trans (row_split hi)
 have hput:=put_seg (X:=nineL v.f u) htk2 hP rfl
 have hE2:EncOK rowL 19 (l.set i { l[i] with v:=v,uv:=u }):=fun r hr=>by
  rcases List.mem_or_eq_of_mem_set hr with h | h
  ·exact hE r h
  ·subst h
   refine ⟨rfl,fun x hx=>?_⟩
   unfold rowL at hx
   have h1:=(hE _ (List.getElem_mem hi)).2
   rcases List.mem_append.1 hx with hx | hx
   ·exact h1 x (by unfold rowL;exact List.mem_append_left _ hx)
   rcases List.mem_append.1 hx with hx | hx
   ·exact nineL_one hu x hx
   ·simp at hx;subst hx;rfl
 refine ⟨w.setRow g (put cur.toList (i * 19 + 9) (nineL v.f u)).toArray,?_,⟨?_,.inr ⟨g,c,(put cur.toList (i * 19 + 9) (nineL v.f u)).toArray,by simp,hbg,setRow_heap _ _ _ _ _ _ hg,by simpa using hnc,hcm,?_,?_⟩⟩,⟨rfl,rfl,rfl,by simp [World.setRow],fun k hk hn=>setRow_other _ g k _ (fun e=>hn (by subst e;rfl))⟩⟩
 ·have hc:(aggV v.f u).cells.toList = nineL v.f u:=rfl
  have hc2:(aggV v.f u).cells.size = 9:=rfl
  cases hq:Tryz.prog.info? 24 with
  | none=>simp [hq] at hi24
  | some ie =>
   have hs:ie.size = 9:=by simpa [hq] using hi24
   unfold put
   rw [hlen] at hst ⊢
   simp [storeVar,sizeOf,typeInfo,hq,hs,hc,hc2,hst,hlen]
 ·exact flat_len hE2
 ·rw [List.size_toArray,put_len (by rw [hcl,hlen];omega),hcl]
 ·rw [List.toList_toArray,List.length_set,setv_split hi]
  exact hput
theorem three_boxes (w:World) (o1 o2 o3:Obj) {x1 x2 x3:List Value} {t1 t2 t3:TypeId} (e1:o1 = .cells x1.toArray t1) (e2:o2 = .cells x2.toArray t2) (e3:o3 = .cells x3.toArray t3) {S:Nat→Prop} (hS:∀ k,S k→k < w.heap.size) :
 Below w.heap.size w (((w.alloc o1).alloc o2).alloc o3)∧∀ W,TouchB S (((w.alloc o1).alloc o2).alloc o3) W→W.rangeAt w.heap.size 0 x1∧W.rangeAt (w.heap.size + 1) 0 x2∧W.rangeAt (w.heap.size + 2) 0 x3:=by
 obtain ⟨h1,h2,h3⟩:=two_boxes w o1 o2
 have h4:=alloc_new ((w.alloc o1).alloc o2) o3
 have hs:((w.alloc o1).alloc o2).heap.size = w.heap.size + 2:=by rw [World.size_alloc,World.size_alloc]
 rw [hs] at h4
 have k1:=(Below.heap_alloc ((w.alloc o1).alloc o2) o3 w.heap.size (by omega)).trans h2
 have k2:=(Below.heap_alloc ((w.alloc o1).alloc o2) o3 (w.heap.size + 1) (by omega)).trans h3
 refine ⟨belowA h1 o3 h1.size,fun W hW=>?_⟩
 have hr:∀ g (x:List Value) t,w.heap.size ≤ g→(((w.alloc o1).alloc o2).alloc o3).heap[g]? = some (.cells x.toArray t)→W.rangeAt g 0 x:=fun g x t hg hx j u hu=>by
  have hb:=(hW.block g (Array.getElem?_eq_some_iff.1 hx).1 (fun e=>by have:=hS g e;omega)).trans hx
  rw [cell_of_row W g (0 + j) x.toArray t _ hb]
  simpa using hu
 exact ⟨hr _ _ _ (Nat.le_refl _) (by rw [k1,e1]),hr _ _ _ (by omega) (by rw [k2,e2]),hr _ _ _ (by omega) (by rw [h4,e3])⟩
end
end Go.Proofs.YtfbggmbmgohiiaaGreat.tb
