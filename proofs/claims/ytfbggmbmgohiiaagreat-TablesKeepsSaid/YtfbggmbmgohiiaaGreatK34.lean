/- Texts of this seat, one behind the other: TbV, TbW. No condition beyond theirs. -/
import Derived.Laws.CopyRow
import Derived.Lib.Overlaps
import Derived.Test.YtfbggmbmgohiiaaGreatK33
import Derived.Laws.Externs
set_option linter.unusedSimpArgs false
set_option linter.unusedVariables false
set_option maxHeartbeats 4000000
set_option maxRecDepth 100000
namespace Go.Proofs.YtfbggmbmgohiiaaGreat.tb
open Go.RowKit mem rec tm names
def put {α:Type} (A:List α) (p:Nat) (X:List α):List α:=A.take p ++ X ++ A.drop (p + X.length)
theorem put_len {α:Type} {A:List α} {p:Nat} {X:List α} (h:p + X.length ≤ A.length):(put A p X).length = A.length:=by
 unfold put
 simp only [List.length_append,List.length_take,List.length_drop]
 omega
theorem ins_room {α:Type} {A X:List α} {p n s:Nat} (hp:p ≤ n) (hX:X.length = s) (hA:n + s ≤ A.length):(put (put A (p + s) ((A.take n).drop p)) p X).take (n + s) = A.take p ++ X ++ (A.take n).drop p:=by
 have hD:((A.take n).drop p).length = n - p:=by rw [List.length_drop,List.length_take];omega
 unfold put
 rw [hD,hX]
 have e1:((A.take (p + s) ++ (A.take n).drop p ++ A.drop (p + s + (n - p))).take p) = A.take p:=by
  rw [List.append_assoc,List.take_append_of_le_length (by rw [List.length_take];omega),List.take_take,Nat.min_eq_left (by omega)]
 have e2:((A.take (p + s) ++ (A.take n).drop p ++ A.drop (p + s + (n - p))).drop (p + s)) = (A.take n).drop p ++ A.drop (p + s + (n - p)):=by
  rw [List.append_assoc]
  exact List.drop_left' (by rw [List.length_take];omega)
 rw [e1,e2,← List.append_assoc]
 exact List.take_left' (by simp only [List.length_append,hD,hX,List.length_take];omega)
theorem ins_new {α:Type} {R X Z:List α} {p s:Nat} (hp:p ≤ R.length) (hX:X.length = s) (hZ:s + (R.length - p) ≤ Z.length):(put (put (R.take p ++ Z) p X) (p + s) (R.drop p)).take (R.length + s) = R.take p ++ X ++ R.drop p:=by
 have hD:(R.drop p).length = R.length - p:=List.length_drop
 have hT:(R.take p).length = p:=by rw [List.length_take];omega
 have e1:put (R.take p ++ Z) p X = R.take p ++ X ++ Z.drop s:=by
  unfold put
  rw [List.take_left' hT,hX,List.drop_append,hT,Nat.add_sub_cancel_left,List.drop_of_length_le (by omega),List.nil_append]
 have e2:(R.take p ++ X ++ Z.drop s).take (p + s) = R.take p ++ X:=List.take_left' (by rw [List.length_append,hT,hX])
 rw [e1]
 unfold put
 rw [e2]
 exact List.take_left' (by simp only [List.length_append,hT,hX,hD];omega)
theorem wpList_copy_run {w w':World} {ops:Array Oper} {rest:List Oper} {o:Oper} {a:Act} {Q:Exit→Act→World→Prop} (hgd:o.guard = none) (x y:Operand) {t t':TypeId}
 (ho:o.op = .call { callee:=.builtin .copy,args:=#[x,y],argTypes:=#[t,t'] }) {vx vy v:Value} (hx:a.eval x = vx) (hy:a.eval y = vy) (hr:(Builtin.copy_ #[t,t'] o.type #[vx,vy]).run Tryz.prog w = .ok v w')
 (h:wpList Tryz.prog ops Q rest (a.put o.dst v) w'):wpList Tryz.prog ops Q (o :: rest) a w:=by
 refine wpList_plain hgd fun K hK=>?_
 unfold Oper.wp execOp
 simp only [ho,resolve,invoke,builtin,Sem.run_bind,Sem.run_pure,Result.andThen_ok,List.map_toArray,List.map_cons,List.map_nil,hx,hy,hr]
 exact hK _ _ h
theorem wpList_appmake_run {w w':World} {ops:Array Oper} {rest:List Oper} {o:Oper} {a:Act} {Q:Exit→Act→World→Prop} (hgd:o.guard = none) (x y:Operand) {t t':TypeId}
 (ho:o.op = .call { callee:=.builtin .append,args:=#[x,y],argTypes:=#[t,t'] }) {vx vy v:Value} (hx:a.eval x = vx) (hy:a.eval y = vy) (hr:(Builtin.append_ #[t,t'] o.type #[vx,vy]).run Tryz.prog w = .ok v w')
 (h:wpList Tryz.prog ops Q rest (a.put o.dst v) w'):wpList Tryz.prog ops Q (o :: rest) a w:=by
 refine wpList_plain hgd fun K hK=>?_
 unfold Oper.wp execOp
 simp only [ho,resolve,invoke,builtin,Sem.run_bind,Sem.run_pure,Result.andThen_ok,List.map_toArray,List.map_cons,List.map_nil,hx,hy,hr]
 exact hK _ _ h
section
variable {sl e s b:Nat} {z:Value} {i:TypeInfo}
theorem run_sizeOf (hi:Tryz.prog.info? e = some i) (hs:i.size = s) (w:World):(Go.sizeOf e).run Tryz.prog w = .ok s w:=by
 rw [← hs]
 simp [Go.sizeOf,typeInfo,Sem.run,hi,Result.andThen]
theorem run_copy_rec (hu:Tryz.prog.underlying sl = some (.slice e)) (hi:Tryz.prog.info? e = some i) (hs:i.size = s) (ty:TypeId) (w:World) (g o:Nat) (cur:Array Value) (hg:w.heap[g]? = some (.cells cur e (0,0))) (dLen dCap:Nat) (a:Addr) (sLen sCap:Nat) (news:List Value) (hl:news.length = Nat.min sLen dLen * s) (hnews:∀ j u,news[j]? = some u→w.cell? (a.add j) = some u) (h1:∀ u ∈ news,u.oneCell' = true) (hfit:o + news.length ≤ cur.size) :
 (Builtin.copy_ #[sl,sl] ty #[.slice (some ⟨g,o,none⟩) dLen dCap,.slice (some a) sLen sCap]).run Tryz.prog w = .ok (goInt (Nat.min sLen dLen)) (w.setRow g (put cur.toList o news).toArray):=by
 have hf:=run_firstCells_some (P:=Tryz.prog) w s (Nat.min sLen dLen) a sLen sCap news hl hnews
 have hst:=run_storeCells_at Tryz.prog g o e news 0 cur w hg (by simpa using hfit) h1
 simp only [Nat.add_zero] at hst
 unfold put
 simp [Builtin.copy_,run_underlying hu,Builtin.lenOf,sizeOf,typeInfo,hi,hs,hf,hst]
theorem run_append_make (hu:Tryz.prog.underlying sl = some (.slice e)) (hi:Tryz.prog.info? e = some i) (hz:i.zero = some z) (hs:i.size = s) (hzs:z.cells.size = s) (hpos:0 < s) (hb:i.bytes = b) (ty:TypeId) (w:World) (g sLen sCap k:Nat) (olds:List Value) (hlo:olds.length = sLen * s) (holds:∀ j u,olds[j]? = some u→w.cell? ⟨g,j,none⟩ = some u) (hk:0 < k) (hg:sCap < sLen + k) (hsm:(sLen + k) * b ≤ 140737488355328) (hsm2:sLen + k ≤ 1000000000) (hk2:k * b ≤ 140737488355328) :
 (Builtin.append_ #[sl,3] ty #[.slice (some ⟨g,0,none⟩) sLen sCap,.int .i64 k]).run Tryz.prog w =
   .ok (.slice (some ⟨w.heap.size,0,none⟩) (sLen + k) (grownCap w (sLen + k) sCap e))
    (w.drew.alloc (.cells (olds.toArray ++ Builtin.zeroCells z.cells k ++ Builtin.zeroCells z.cells (grownCap w (sLen + k) sCap e - (sLen + k))) e)):=by
 have hn:¬ (sLen + k ≤ sCap):=by omega
 have h63':¬ (9223372036854775807 < ((sLen:Int) + (k:Int))):=by omega
 have h48':¬ (281474976710656 < Builtin.nextslicecap (sLen + k) sCap * i.bytes):=Nat.not_lt.2 (growslice_fits (by omega) (by rw [hb];exact hsm))
 have hw:IntKind.i64.wrap (k:Int) = k:=IntWalk.i64_in _ (by omega)
 have h48'':¬ (281474976710656 < (k:Int) * (i.bytes:Int)):=by
  have:((k * i.bytes:Nat):Int) ≤ ((140737488355328:Nat):Int):=Int.ofNat_le.2 (by rw [hb];exact hk2)
  rw [Int.natCast_mul] at this
  have e:((140737488355328:Nat):Int) = 140737488355328:=rfl
  omega
 have hks:¬ (k * s = 0):=by
  have:=Nat.mul_pos hk hpos
  omega
 have hfo:=run_firstCells_some (P:=Tryz.prog) w.drew s sLen ⟨g,0,none⟩ sLen sCap olds hlo (by intro j u hj;rw [Addr.add_lit,Nat.zero_add];exact holds j u hj)
 have hk0:¬ ((k:Int) < 0):=by omega
 have hai:(asInt (.int .i64 (k:Int))).run Tryz.prog w = .ok (k:Int) w:=by simp [asInt,asIntOf]
 simp [Builtin.append_,hai,run_underlying hu,run_underlying Tryz.underlying3,sizeOf,typeInfo,zeroValue,hi,hz,hs,hn,h63',h48',h48'',hw,hk0,hks,Question.forced,hfo,newRow,grownCap]
end
theorem info108:(Tryz.prog.info? 108).map (fun i=>(i.zero,i.size,i.bytes)) = some (some (.agg #[.int .i64 0,.int .i64 0,.int .i64 0,.string ⟨#[]⟩,.string ⟨#[]⟩,.int .i64 0,.slice none 0 0,.string ⟨#[]⟩,.int .i64 0,.int .i64 0,.int .i64 0,.int .i64 0,.string ⟨#[]⟩,.string ⟨#[]⟩,.int .i64 0,.slice none 0 0,.string ⟨#[]⟩,.int .i64 0,.int .u32 0]),19,232):=by kernel_rfl
theorem elR:ElTy 96 108 19:=elty_of Tryz.underlying96 info108 rfl (by decide) (by decide)
def InsQ {N:Nat} (B:Nat) (vr:Value) (l':List (RowE N)) (w:World) (e:Ending) (w':World):Prop:=∃ v',e = .returned v'∧RecOwn rowL 108 19 w' B v' l'∧TouchB (fun k=>vr.ownBlock = some k) w w'∧∀ k,v'.ownBlock = some k→vr.ownBlock = some k∨w.heap.size ≤ k
section
variable {N:Nat} {w:World} {B:Nat} {vr:Value} {l:List (RowE N)} {row:RowE N} {zv:Nat}
theorem row_at (h:w.heap[zv]? = some (.cells (rowL row).toArray 108)) (hE:EncOK rowL 19 [row]):RecAt rowL 19 w (zv + 1) (.slice (some ⟨zv,0,none⟩) 1 1) [row] :=
 RecAt.fresh (l:=[row]) hE (by decide) (by simpa using h) (Nat.le_refl _) (by decide)
theorem insert60e (hown:RecOwn rowL 108 19 w B vr l) (hB:B ≤ w.heap.size) (hlen:l.length ≤ 1000000) (hE:EncOK rowL 19 [row]) (hz:w.heap[zv]? = some (.cells (rowL row).toArray 108)) :
 Calls Tryz.prog 60 #[vr,.int .i64 l.length,.slice (some ⟨zv,0,none⟩) 1 1] w (InsQ B vr (l ++ [row]) w):=by
 have HO:=Lib.hid hown
 have HRw:=Lib.hid (row_at hz hE)
 have HE:=Lib.hid hE
 obtain ⟨pv,cv,rfl,hc,hm⟩:=hown.shape
 unfold maxLen at hm
 clear hown hz hE
 go_enter Tryz.func60,Tryz.ntmps60
 go_wp2_with (first
  | (refine wpList_append_rec elR rfl (.tmp 23) (.tmp 24) rfl rfl HO.out hB rfl HRw.out HE.out (by simp;omega) ?_;intro v' w2 hA;obtain ⟨ao',cap',hv,_,_⟩:=hA.own.shape;generalize (l ++ [row]).length = q at hv;subst hv;have HA:Hid (AppR rowL 108 19 w B (.slice pv l.length cv) l [row] (.slice ao' q cap') w2):=Lib.hid hA;clear hA))
 all_goals
  go_ret
  refine ⟨.slice ao' q cap',rfl,HA.out.own,HA.out.touch (TouchB.refl _ _) (fun k hk _=>by cases pv <;> first | exact hk | simpa [Value.ownBlock] using hk),fun k hk=>?_⟩
  rcases HA.out.at_ with e | e
  ·have h5:(Value.slice pv l.length cv).ownBlock = some k:=e ▸ hk
   exact .inl (by cases pv <;> first | exact h5 | simpa [Value.ownBlock] using h5)
  ·rw [e] at hk
   exact .inr (Nat.le_of_eq (Option.some.inj hk))
theorem own_parts (hown:RecOwn rowL 108 19 w B vr l) (h0:0 < l.length):∃ g cap cur,vr = .slice (some ⟨g,0,none⟩) l.length cap∧B ≤ g∧w.heap[g]? = some (.cells cur 108 (0,0))∧l.length ≤ cap∧cap ≤ maxLen∧cur.size = cap * 19∧cur.toList.take (l.length * 19) = l.flatMap rowL:=by
 rcases hown.2 with ⟨_,hz⟩ | ⟨g,cap,cur,hv,r⟩
 ·omega
 ·exact ⟨g,cap,cur,hv,r⟩
theorem flat_take (hE:EncOK rowL 19 l) (i:Nat) (hi:i ≤ l.length):(l.flatMap rowL).take (i * 19) = (l.take i).flatMap rowL:=by
 have e:l.flatMap rowL = (l.take i).flatMap rowL ++ (l.drop i).flatMap rowL:=by rw [← List.flatMap_append,List.take_append_drop]
 rw [e]
 exact List.take_left' (by rw [flat_len (hE.sub (fun a ha=>List.mem_of_mem_take ha)),List.length_take,Nat.min_eq_left hi])
theorem flat_drop (hE:EncOK rowL 19 l) (i:Nat) (hi:i ≤ l.length):(l.flatMap rowL).drop (i * 19) = (l.drop i).flatMap rowL:=by
 have e:l.flatMap rowL = (l.take i).flatMap rowL ++ (l.drop i).flatMap rowL:=by rw [← List.flatMap_append,List.take_append_drop]
 rw [e]
 exact List.drop_left' (by rw [flat_len (hE.sub (fun a ha=>List.mem_of_mem_take ha)),List.length_take,Nat.min_eq_left hi])
theorem overlaps90 {gb ob lb cb:Nat} {cur:Array Value} (hz:w.heap[zv]? = some (.cells (rowL row).toArray 108)) (hg:w.heap[gb]? = some (.cells cur 108 (0,0))) (hne:zv ≠ gb) (hc:cur.size ≠ 0) :
 (callFunc 90 #[.slice (some ⟨zv,0,none⟩) 1 1,.slice (some ⟨gb,ob,none⟩) lb cb]).run Tryz.prog w = .ok (.value (.bool false)) w:=by
 have hsz:∀ w,(Go.sizeOf 108).run Tryz.prog w = .ok 19 w:=fun w=>by
  obtain ⟨i0,hi,hzz,hs,hb⟩:=info_parts info108
  exact run_sizeOf hi hs w
 rw [run_callFunc_extern Tryz.func90 (by kernel_rfl) (by kernel_rfl) (by kernel_rfl) (e:=Extern.SlicesOverlaps.overlaps #[96,96] #[4]) (by kernel_rfl),
  Lib.run_overlaps_apart w 96 4 108 Tryz.underlying96 19 hsz ⟨zv,0,none⟩ ⟨gb,ob,none⟩ 1 1 lb cb hne 108 108 (rowL row).toArray.size cur.size (by simp [World.shape?,hz]) (by simp [World.shape?,hg]) hc (by simp only [World.frozen?,hz];simp) (by simp only [World.frozen?,hz];simp)]
 rfl
theorem insert60m (hown:RecOwn rowL 108 19 w B vr l) (hB:B ≤ w.heap.size) (hlen:l.length ≤ 1000000) (hEl:EncOK rowL 19 l) (hE:EncOK rowL 19 [row]) (hz:w.heap[zv]? = some (.cells (rowL row).toArray 108)) (hne:vr.ownBlock ≠ some zv) {i:Nat} (hi:i < l.length) {p:Option Addr} {n c:Nat} (hvr:vr = .slice p n c) (hroom:l.length + 1 ≤ c) :
 Calls Tryz.prog 60 #[vr,.int .i64 i,.slice (some ⟨zv,0,none⟩) 1 1] w (InsQ B vr (l.take i ++ [row] ++ l.drop i) w):=by
 obtain ⟨g,cap,cur,rfl,hbg,hg,hnc,hcm,hcs,htk⟩:=own_parts hown (by omega)
 simp only [Value.slice.injEq] at hvr
 obtain ⟨rfl,rfl,rfl⟩:=hvr
 obtain ⟨i0,hi0,hz0,hs0,hb0⟩:=info_parts info108
 have hng:zv ≠ g:=fun e=>hne (by rw [e];rfl)
 have hfl:=flat_len hEl
 have hov:=fun lb cb=>overlaps90 (gb:=g) (ob:=(i + 1) * 19) (lb:=lb) (cb:=cb) hz hg hng (by omega)
 unfold maxLen at hcm
 have hw1:IntKind.i64.wrap ((l.length:Int) + 1) = (l.length:Int) + 1:=IntWalk.i64_in _ (by omega)
 have hw2:IntKind.i64.wrap ((i:Int) + 1) = (i:Int) + 1:=IntWalk.i64_in _ (by omega)
 have hne2:¬ ((i:Int) = (l.length:Int)):=by omega
 have hb2:¬ (cap = i + 1):=by omega
 have hb4:¬ (cap = i):=by omega
 have hb1:(0:Int) ≤ (i:Int) + 1:=by omega
 have htn:((i:Int) + 1).toNat = i + 1:=by omega
 have hb3:(i:Int) ≤ (l.length:Int) + 1:=by omega
 have hin:i ≤ l.length:=by omega
 have hin2:(i:Int) ≤ (l.length:Int):=by omega
 have hX:(rowL row).length = 19:=rfl
 have hcl:cur.toList.length = cap * 19:=by simpa using hcs
 have hDl:((l.drop i).flatMap rowL).length = (l.length - i) * 19:=by rw [flat_len (hEl.sub (fun a ha=>List.mem_of_mem_drop ha)),List.length_drop]
 have hD1:((cur.toList.take (l.length * 19)).drop (i * 19)) = (l.drop i).flatMap rowL:=by rw [htk,flat_drop hEl i (Nat.le_of_lt hi)]
 have hc1:∀ j u,((l.drop i).flatMap rowL)[j]? = some u→w.drew.cell? ((⟨g,i * 19,none⟩:Addr).add j) = some u:=fun j u hj=>by
  rw [Addr.add_lit]
  have h2:(l.flatMap rowL)[i * 19 + j]? = some u:=by rw [← List.getElem?_drop,flat_drop hEl i (Nat.le_of_lt hi)];exact hj
  have:=World.ownsRow.cells (g:=g) hown rfl (i * 19 + j) u h2
  rwa [Addr.add_lit,Nat.zero_add] at this
 have h1D:∀ u ∈ (l.drop i).flatMap rowL,u.oneCell' = true:=fun u hu=>by
  obtain ⟨a,ha,hu⟩:=List.mem_flatMap.1 hu
  exact (hEl a (List.mem_of_mem_drop ha)).2 u hu
 have hm1:Nat.min (l.length + 1 - i) (l.length - i) = l.length - i:=by simp only [Nat.min_def];split <;> omega
 have hr1:=fun ty dc sc=>run_copy_rec (sl:=96) (e:=108) (s:=19) Tryz.underlying96 hi0 hs0 ty w.drew g ((i + 1) * 19) cur hg (l.length - i) dc ⟨g,i * 19,none⟩ (l.length + 1 - i) sc ((l.drop i).flatMap rowL) (by rw [hm1];exact hDl) hc1 h1D (by rw [hDl];omega)
 rw [hm1] at hr1
 obtain ⟨C1,hC1⟩:∃ C1,put cur.toList ((i + 1) * 19) ((l.drop i).flatMap rowL) = C1:=⟨_,rfl⟩
 have hC1l:C1.length = cap * 19:=by rw [← hC1,put_len (by rw [hDl];omega),hcl]
 rw [hC1] at hr1
 have hg1:=setRow_heap w.drew g cur C1.toArray 108 (0,0) hg
 have hz1:(w.drew.setRow g C1.toArray).heap[zv]? = some (.cells (rowL row).toArray 108):=(setRow_other w.drew g zv _ hng).trans hz
 have hm2:Nat.min 1 (l.length + 1 - i) = 1:=by simp only [Nat.min_def];split <;> omega
 have hr2:=fun ty dc sc=>run_copy_rec (sl:=96) (e:=108) (s:=19) Tryz.underlying96 hi0 hs0 ty (w.drew.setRow g C1.toArray) g (i * 19) C1.toArray hg1 (l.length + 1 - i) dc ⟨zv,0,none⟩ 1 sc (rowL row) (by rw [hm2,hX]) (fun j u hj=>by
  rw [Addr.add_lit,Nat.zero_add]
  simp only [World.cell?,hz1]
  simpa using hj) (fun u hu=>(hE row (List.mem_singleton.2 rfl)).2 u hu) (by rw [hX,List.size_toArray,hC1l];omega)
 rw [hm2] at hr2
 have hg2:=setRow_heap (w.drew.setRow g C1.toArray) g C1.toArray (put C1 (i * 19) (rowL row)).toArray 108 (0,0) hg1
 have HFin:Hid (InsQ B (.slice (some ⟨g,0,none⟩) l.length cap) (l.take i ++ [row] ++ l.drop i) w (.returned (.slice (some ⟨g,0,none⟩) (l.length + 1) cap)) ((w.drew.setRow g C1.toArray).setRow g (put C1 (i * 19) (rowL row)).toArray)):=Lib.hid (by
  have hln:(l.take i ++ [row] ++ l.drop i).length = l.length + 1:=by simp;omega
  have hins:=ins_room (A:=cur.toList) (X:=rowL row) (p:=i * 19) (n:=l.length * 19) (s:=19) (by omega) hX (by omega)
  rw [hD1,show i * 19 + 19 = (i + 1) * 19 by omega,hC1] at hins
  refine ⟨_,rfl,⟨?_,.inr ⟨g,cap,_,by rw [hln],hbg,hg2,by rw [hln];exact hroom,by unfold maxLen;omega,?_,?_⟩⟩,⟨rfl,rfl,rfl,by simp [World.setRow],fun k hk hn=>?_⟩,fun k hk=>.inl (by simpa [Value.ownBlock] using hk)⟩
  ·rw [flat_len ((EncOK.append (EncOK.append (hEl.sub (fun a ha=>List.mem_of_mem_take ha)) hE) (hEl.sub (fun a ha=>List.mem_of_mem_drop ha))))]
  ·rw [List.size_toArray,put_len (by rw [hX,hC1l];omega),hC1l]
  ·rw [hln,show (l.length + 1) * 19 = l.length * 19 + 19 by omega,hins,List.flatMap_append,List.flatMap_append,← flat_take hEl i (Nat.le_of_lt hi),← htk,List.take_take,Nat.min_eq_left (by omega)]
   simp
  ·have hkg:k ≠ g:=fun e=>hn (by rw [e];rfl)
   exact (setRow_other _ g k _ hkg).trans (setRow_other _ g k _ hkg))
 have HR1:=Lib.hid hr1
 have HR2:=Lib.hid hr2
 clear hown hne hbg hg hnc hcs htk hfl hX hcl hDl hD1 hc1 h1D hC1 hC1l hg1 hz1 hg2 hr1 hr2 hm1 hm2 hz hE hEl hi0 hz0 hs0 hb0 hng
 go_enter Tryz.func60,Tryz.ntmps60
 go_wp2_with (simp only [hov])
 have hcz:(cap:Int) ≤ 9223372036854775807:=by omega
 clear hov hcm hw1 hne2 hlen hB
 go_still_tail 8,(by kernel_rfl)
 change wpList _ _ _ _ _ w.drew
 go_wp2_with (first
  | (refine wpList_copy_run rfl (.tmp 73) (.tmp 76) rfl rfl rfl (HR1.out _ _ _) ?_)
  | (refine wpList_copy_run rfl (.tmp 80) (.tmp 81) rfl rfl rfl (HR2.out _ _ _) ?_))
 go_ret
 exact HFin.out
end
end Go.Proofs.YtfbggmbmgohiiaaGreat.tb
