/- Rec,HpA,HpB. No condition beyond theirs. -/
import Derived.Test.YtpnlnbolhkcnjaaGreatK05
import Derived.Maps.AppendAt
set_option linter.unusedSectionVars false
set_option linter.unusedSimpArgs false
set_option linter.unusedVariables false
set_option maxHeartbeats 4000000
set_option maxRecDepth 100000
namespace Go.Proofs.YtpnlnbolhkcnjaaGreat
namespace rec
open Go.RowKit mem
structure ElTy (sl e:TypeId) (s:Nat):Prop where
 und:Tryz.prog.underlying sl = some (.slice e)
 info:∃ i z,Tryz.prog.info? e = some i∧i.zero = some z∧i.size = s∧z.cells.size = s∧i.bytes ≤ 10000
 pos:0 < s
section
variable {α:Type} {enc:α→List Value} {s:Nat}
def EncOK (enc:α→List Value) (s:Nat) (l:List α):Prop:=∀ a ∈ l,(enc a).length = s∧∀ u ∈ enc a,u.oneCell' = true
theorem EncOK.nil:EncOK enc s []:=fun a h=>by simp at h
theorem EncOK.append {l m:List α} (h:EncOK enc s l) (k:EncOK enc s m):EncOK enc s (l ++ m):=fun a ha=>by
 rcases List.mem_append.1 ha with ha | ha
 ·exact h a ha
 ·exact k a ha
theorem EncOK.sub {l m:List α} (h:EncOK enc s l) (hm:∀ a ∈ m,a ∈ l):EncOK enc s m:=fun a ha=>h a (hm a ha)
theorem flat_len:∀ {l:List α},EncOK enc s l→(l.flatMap enc).length = l.length * s:=by
 intro l
 induction l with
 | nil=>intro _;simp
 | cons a l ih =>
  intro h;rw [List.flatMap_cons,List.length_append,(h a List.mem_cons_self).1,ih (fun b hb=>h b (List.mem_cons_of_mem _ hb)),List.length_cons,Nat.succ_mul,Nat.add_comm]
theorem flat_get:∀ {l:List α},EncOK enc s l→∀ {j:Nat} {a:α},l[j]? = some a→∀ {k:Nat},k < s→(l.flatMap enc)[j * s + k]? = (enc a)[k]?:=by
 intro l
 induction l with
 | nil=>intro _ j a h;simp at h
 | cons b l ih =>
  intro h j a hj k hk;have hb:=(h b List.mem_cons_self).1;rw [List.flatMap_cons];cases j with
  | zero =>
   obtain rfl:b = a:=by simpa using hj
   rw [Nat.zero_mul,Nat.zero_add,List.getElem?_append_left (by omega)]
  | succ j =>
   rw [List.getElem?_cons_succ] at hj;rw [List.getElem?_append_right (by rw [Nat.succ_mul];omega),hb,← ih (fun c hc=>h c (List.mem_cons_of_mem _ hc)) hj hk];congr 1;rw [Nat.succ_mul];omega
theorem flat_inv {l:List α} (hs:0 < s) {i:Nat} (hi:i < l.length * s):∃ j k a,i = j * s + k∧k < s∧l[j]? = some a:=by
 have hj:i / s < l.length:=(Nat.div_lt_iff_lt_mul hs).2 hi;refine ⟨i / s,i % s,l[i / s],?_,Nat.mod_lt _ hs,List.getElem?_eq_getElem hj⟩;rw [Nat.mul_comm];exact (Nat.div_add_mod i s).symm
def RecAt (enc:α→List Value) (s:Nat) (w:World) (B:Nat) (v:Value) (l:List α):Prop :=
 ∃ p c,v = .slice p l.length c∧l.length ≤ c∧c ≤ maxLen∧(l ≠ []→∃ g o,p = some ⟨g,o,none⟩∧g < B∧∀ j a,l[j]? = some a→∀ k u,(enc a)[k]? = some u→w.cell? ⟨g,o + (j * s + k),none⟩ = some u)
def RecOwn (enc:α→List Value) (e:TypeId) (s:Nat) (w:World) (base:Nat) (v:Value) (l:List α):Prop:=w.ownsRow base e s v l.length (l.flatMap enc)
theorem RecAt.shape {w:World} {B:Nat} {v:Value} {l:List α} (h:RecAt enc s w B v l):∃ p c,v = .slice p l.length c∧l.length ≤ c∧c ≤ maxLen:=by
 obtain ⟨p,c,e,h1,h2,_⟩:=h;exact ⟨p,c,e,h1,h2⟩
theorem RecAt.same {w w':World} {B:Nat} {v:Value} {l:List α} (h:RecAt enc s w B v l) (hs:∀ g,g < B→w'.heap[g]? = w.heap[g]?):RecAt enc s w' B v l:=by
 obtain ⟨p,c,e,h1,h2,h3⟩:=h;refine ⟨p,c,e,h1,h2,fun hn=>?_⟩;obtain ⟨g,o,e,hg,hc⟩:=h3 hn;exact ⟨g,o,e,hg,fun j a hj k u hu=>(World.cell?_of_block (w:=w) (w':=w') (a:=⟨g,o + (j * s + k),none⟩) (hs g hg)).trans (hc j a hj k u hu)⟩
theorem RecAt.block {w w':World} {B:Nat} {v:Value} {l:List α} (h:RecAt enc s w B v l) (hs:∀ g,v.ownBlock = some g→w'.heap[g]? = w.heap[g]?):RecAt enc s w' B v l:=by
 obtain ⟨p,c,e,h1,h2,h3⟩:=h;refine ⟨p,c,e,h1,h2,fun hn=>?_⟩;obtain ⟨g,o,e',hg,hc⟩:=h3 hn;exact ⟨g,o,e',hg,fun j a hj k u hu=>(World.cell?_of_block (w:=w) (w':=w') (a:=⟨g,o + (j * s + k),none⟩) (hs g (by rw [e,e'];rfl))).trans (hc j a hj k u hu)⟩
theorem RecAt.below {w w':World} {B B':Nat} {v:Value} {l:List α} (h:RecAt enc s w B v l) (hb:Below B' w w') (hB:B ≤ B'):RecAt enc s w' B v l:=h.same fun g hg=>hb.block g (by omega)
theorem RecAt.more {w:World} {B B':Nat} {v:Value} {l:List α} (h:RecAt enc s w B v l) (hB:B ≤ B'):RecAt enc s w B' v l:=by
 obtain ⟨p,c,e,h1,h2,h3⟩:=h;refine ⟨p,c,e,h1,h2,fun hn=>?_⟩;obtain ⟨g,o,e,hg,hc⟩:=h3 hn;exact ⟨g,o,e,by omega,hc⟩
theorem RecAt.drewN {w:World} {B:Nat} {v:Value} {l:List α} (h:RecAt enc s w B v l) (m:Nat):RecAt enc s (w.drewN m) B v l:=h.same (fun _ _=>rfl)
theorem RecAt.nil (w:World) (B:Nat) (p:Option Addr) (c:Nat) (hc:c ≤ maxLen):RecAt enc s w B (.slice p 0 c) ([]:List α):=⟨p,c,rfl,Nat.zero_le _,hc,fun h=>absurd rfl h⟩
theorem RecAt.nth {w:World} {B:Nat} {p:Option Addr} {n c:Nat} {l:List α} (h:RecAt enc s w B (.slice p n c) l) (h0:0 < l.length):∃ g o,p = some ⟨g,o,none⟩∧n = l.length∧g < B∧∀ j a,l[j]? = some a→∀ k u,(enc a)[k]? = some u→w.cell? ⟨g,o + (j * s + k),none⟩ = some u:=by
 obtain ⟨p',c',e,h1,h2,h3⟩:=h;simp only [Value.slice.injEq] at e;obtain ⟨rfl,rfl,rfl⟩:=e;obtain ⟨g,o,e,hg,hc⟩:=h3 (List.length_pos_iff.1 h0);exact ⟨g,o,e,rfl,hg,hc⟩
theorem RecAt.take {w:World} {B:Nat} {p:Option Addr} {n c:Nat} {l:List α} (h:RecAt enc s w B (.slice p n c) l) {k:Nat} (hk:k ≤ l.length):RecAt enc s w B (.slice p k c) (l.take k):=by
 obtain ⟨p',c',e,h1,h2,h3⟩:=h;simp only [Value.slice.injEq] at e;obtain ⟨rfl,rfl,rfl⟩:=e;have hl:(l.take k).length = k:=by rw [List.length_take];omega
 refine ⟨p,c,by rw [hl],by rw [hl];omega,h2,fun hn=>?_⟩;have h0:0 < (l.take k).length:=List.length_pos_iff.2 hn;obtain ⟨g,o,e',hg,hc⟩:=h3 (by intro e;subst e;simp at h0);refine ⟨g,o,e',hg,fun j a hj=>hc j a ?_⟩;have hjk:=(List.getElem?_eq_some_iff.1 hj).1;rw [← hj,List.getElem?_take,if_pos (by omega)]
theorem RecAt.drop {w:World} {B g o n c:Nat} {l:List α} (h:RecAt enc s w B (.slice (some ⟨g,o,none⟩) n c) l) {k:Nat} (hk:k ≤ l.length):RecAt enc s w B (.slice (some ⟨g,o + k * s,none⟩) (n - k) (c - k)) (l.drop k):=by
 obtain ⟨p',c',e,h1,h2,h3⟩:=h;simp only [Value.slice.injEq] at e;obtain ⟨rfl,rfl,rfl⟩:=e;have hl:(l.drop k).length = l.length - k:=List.length_drop;refine ⟨_,c - k,by rw [hl],by rw [hl];omega,by omega,fun hn=>?_⟩;have h0:0 < (l.drop k).length:=List.length_pos_iff.2 hn;obtain ⟨g',o',e',hg,hc⟩:=h3 (by intro e;subst e;simp at h0);simp only [Option.some.injEq,Addr.mk.injEq,and_true] at e';obtain ⟨rfl,rfl⟩:=e';refine ⟨g,o + k * s,rfl,hg,fun j a hj q u hu=>?_⟩;rw [List.getElem?_drop] at hj;have:=hc (k + j) a hj q u hu;rw [Nat.add_mul] at this;rw [← this];congr 2;omega
theorem RecAt.fresh {w:World} {g:Nat} {e:TypeId} {l:List α} {fz:Nat × Nat} (hE:EncOK enc s l) (hs:0 < s) (h:w.heap[g]? = some (.cells (l.flatMap enc).toArray e fz)) {c:Nat} (hc:l.length ≤ c) (hm:c ≤ maxLen):RecAt enc s w (g + 1) (.slice (some ⟨g,0,none⟩) l.length c) l:=by
 refine ⟨_,c,rfl,hc,hm,fun _=>⟨g,0,rfl,by omega,fun j a hj k u hu=>?_⟩⟩;have hk:k < s:=by
  have:=(List.getElem?_eq_some_iff.1 hu).1;rwa [(hE a (List.mem_of_getElem? hj)).1] at this
 have hg:=flat_get hE hj hk;rw [hu] at hg;rw [Nat.zero_add];unfold World.cell?;simp [h,hg]
theorem RecOwn.shape {e:TypeId} {w:World} {base:Nat} {v:Value} {l:List α} (h:RecOwn enc e s w base v l):∃ p c,v = .slice p l.length c∧l.length ≤ c∧c ≤ maxLen:=by
 rcases h.2 with ⟨h1,h2⟩ | ⟨g,cap,cur,h1,_,_,h2,h3,_⟩
 ·exact ⟨none,0,by rw [h1,h2],by omega,Nat.zero_le _⟩
 ·exact ⟨_,cap,h1,h2,h3⟩
theorem RecOwn.lt {e:TypeId} {w:World} {base:Nat} {v:Value} {l:List α} (h:RecOwn enc e s w base v l) {k:Nat} (hk:v.ownBlock = some k):base ≤ k∧k < w.heap.size:=by
 rcases h.2 with ⟨h1,_⟩ | ⟨g,cap,cur,h1,hb,hh,_⟩
 ·subst h1;simp [Value.ownBlock] at hk
 ·subst h1;obtain rfl:g = k:=by simpa [Value.ownBlock] using hk
  exact ⟨hb,(Array.getElem?_eq_some_iff.1 hh).1⟩
theorem RecOwn.nil (e:TypeId) (w:World) (base:Nat):RecOwn enc e s w base (.slice none 0 0) ([]:List α):=⟨by simp,.inl ⟨rfl,rfl⟩⟩
theorem RecOwn.same {e:TypeId} {w w':World} {base:Nat} {v:Value} {l:List α} (h:RecOwn enc e s w base v l) (hk:∀ k,v.ownBlock = some k→w'.heap[k]? = w.heap[k]?):RecOwn enc e s w' base v l:=row_same h hk
theorem RecOwn.base {e:TypeId} {w:World} {base base':Nat} {v:Value} {l:List α} (h:RecOwn enc e s w base v l) (hb:∀ k,v.ownBlock = some k→base' ≤ k):RecOwn enc e s w base' v l:=row_base h hb
theorem RecOwn.below {e:TypeId} {w w':World} {base:Nat} {v:Value} {l:List α} (h:RecOwn enc e s w base v l) (hb:Below w.heap.size w w'):RecOwn enc e s w' base v l:=h.same fun k hk=>hb.block k (h.lt hk).2
theorem RecOwn.row {e:TypeId} {w:World} {base:Nat} {v:Value} {l:List α} (hE:EncOK enc s l) (h:RecOwn enc e s w base v l):RecAt enc s w w.heap.size v l:=by
 obtain ⟨h0,h1 | ⟨g,cap,cur,rfl,hb,hh,h2,h3,h4,h5⟩⟩:=id h
 ·obtain ⟨rfl,h2⟩:=h1;obtain rfl:=List.eq_nil_of_length_eq_zero h2;exact RecAt.nil _ _ _ _ (Nat.zero_le _)
 ·refine ⟨_,cap,rfl,h2,h3,fun hn=>⟨g,0,rfl,(Array.getElem?_eq_some_iff.1 hh).1,fun j a hj k u hu=>?_⟩⟩;have hk:k < s:=by
   have:=(List.getElem?_eq_some_iff.1 hu).1;rwa [(hE a (List.mem_of_getElem? hj)).1] at this
  have hg:=flat_get hE hj hk;rw [hu] at hg;have hlt:j * s + k < l.length * s:=by
   have:=(List.getElem?_eq_some_iff.1 hg).1;rw [flat_len hE] at this;exact this
  rw [Nat.zero_add,World.ownsRow.cellAt h _ hlt,hg]
structure AppR (enc:α→List Value) (e:TypeId) (s:Nat) (w:World) (base:Nat) (v:Value) (l xs:List α) (v':Value) (w':World):Prop where
 own:RecOwn enc e s w' base v' (l ++ xs)
 grown:w.grownBy w' v.ownBlock
 at_:v'.ownBlock = v.ownBlock∨v'.ownBlock = some w.heap.size
theorem AppR.other {e:TypeId} {w w':World} {base:Nat} {v v':Value} {l xs:List α} (h:AppR enc e s w base v l xs v' w') {k:Nat} (hk:k < w.heap.size) (hn:v.ownBlock ≠ some k):w'.heap[k]? = w.heap[k]?:=h.grown.block k hk (fun e=>hn e.symm)
theorem AppR.place {e:TypeId} {w w':World} {base:Nat} {v v':Value} {l xs:List α} (h:AppR enc e s w base v l xs v' w') {k:Nat} (hk:k < w.heap.size) (hn:v.ownBlock ≠ some k):v'.ownBlock ≠ some k:=by
 intro e
 rcases h.at_ with h1 | h1
 ·exact hn (h1 ▸ e)
 ·rw [h1] at e;have:=Option.some.inj e;omega
theorem AppR.touch {e:TypeId} {w0 w w':World} {base:Nat} {v v':Value} {l xs:List α} {S:Nat→Prop} (h:AppR enc e s w base v l xs v' w') (ht:TouchB S w0 w) (hs:∀ k,v.ownBlock = some k→k < w0.heap.size→S k):TouchB S w0 w':=ht.grown h.grown hs
theorem AppR.belowB {e:TypeId} {w0 w w':World} {base B:Nat} {v v':Value} {l xs:List α} (h:AppR enc e s w base v l xs v' w') (hb:Below B w0 w) (hB:B ≤ w.heap.size) (hs:∀ k,v.ownBlock = some k→B ≤ k):Below B w0 w':=hb.grown h.grown hB hs
theorem run_append_none_rec {sl e:TypeId} (T:ElTy sl e s) (w:World) (v:Value) (p:Option Addr) (n c c':Nat) (hv:v = .slice p n c) (hc:n ≤ c) (ty:TypeId) :
 (Builtin.append_ #[sl,sl] ty #[v,.slice none 0 c']).run Tryz.prog w = .ok v w:=by
 subst hv;obtain ⟨hund,⟨i,z,hi,hz,hs,hzs,hby⟩,hpos⟩:=T;unfold Builtin.append_;have hsz:(Go.sizeOf e).run Tryz.prog w = .ok s w:=by rw [← hs];simp [Go.sizeOf,typeInfo,Sem.run,hi,Result.andThen]
 simp [go_sem,run_underlying hund,hund,hi,hz,hs,hby,hc,hsz,Result.andThen];cases p <;> rfl
theorem run_append_rec {sl e:TypeId} (T:ElTy sl e s) {w:World} {base:Nat} {v:Value} {l:List α} (h:RecOwn enc e s w base v l) (hb:base ≤ w.heap.size) (ty:TypeId) {B:Nat} {vx:Value} {xs:List α} (hx:RecAt enc s w B vx xs) (hE:EncOK enc s xs) (hn:l.length + xs.length ≤ 1000000000) :
 ∃ v' w',(Builtin.append_ #[sl,sl] ty #[v,vx]).run Tryz.prog w = .ok v' w'∧AppR enc e s w base v l xs v' w':=by
 obtain ⟨p,c,rfl,h1,h2,h3⟩:=hx;cases hxs:xs with
 | nil =>
  subst hxs;cases p with
  | none =>
   obtain ⟨pv,cv,ev,hc,_⟩:=h.shape;exact ⟨v,w,run_append_none_rec T w v pv l.length cv _ ev hc ty,by rw [List.append_nil];exact h,⟨rfl,rfl,rfl,Nat.le_refl _,fun _ _ _=>rfl⟩,.inl rfl⟩
  | some ad =>
   obtain ⟨hund,⟨i,z,hi,hz,hs,hzs,hby⟩,hpos⟩:=T;obtain ⟨v',w',hr,hown,hg,_,hat⟩:=run_append_own_at (P:=Tryz.prog) w base sl ty e i z s i.bytes hund hi hz hs rfl hzs hpos v l.length (l.flatMap enc) h ad 0 c [] (by simp) (fun j u hu=>by simp at hu) (fun u hu=>by simp at hu) (by unfold maxLen;simp at hn;omega) (by
    simp at hn
    refine Nat.le_trans (Nat.mul_le_mul hn hby) (by decide)) hb
   refine ⟨v',w',hr,?_,hg,hat⟩;unfold RecOwn;rw [List.append_nil];simpa using hown
 | cons x0 xs0 =>
  subst hxs;obtain ⟨g,o,rfl,hg,hc⟩:=h3 (by simp);obtain ⟨hund,⟨i,z,hi,hz,hs,hzs,hby⟩,hpos⟩:=T;have hfl:=flat_len hE;obtain ⟨v',w',hr,hown,hg,_,hat⟩:=run_append_own_at (P:=Tryz.prog) w base sl ty e i z s i.bytes hund hi hz hs rfl hzs hpos v l.length (l.flatMap enc) h ⟨g,o,none⟩ (x0 :: xs0).length c ((x0 :: xs0).flatMap enc) hfl (fun j u hu=>by
   have hj:=(List.getElem?_eq_some_iff.1 hu).1
   rw [hfl] at hj
   obtain ⟨q,k,a,rfl,hk,hq⟩:=flat_inv hpos hj
   rw [flat_get hE hq hk] at hu
   have:=hc q a hq k u hu
   rw [Addr.add_lit]
   exact this) (fun u hu=>by
   obtain ⟨a,ha,hu⟩:=List.mem_flatMap.1 hu
   exact (hE a ha).2 u hu) (by unfold maxLen;omega) (by refine Nat.le_trans (Nat.mul_le_mul hn hby) (by decide)) hb
  refine ⟨v',w',hr,?_,hg,hat⟩;unfold RecOwn;rw [List.length_append,List.flatMap_append];exact hown
theorem wpList_append_rec {sl e:TypeId} (T:ElTy sl e s) {w:World} {ops:Array Oper} {rest:List Oper} {o:Oper} {a:Act} {Q:Exit→Act→World→Prop} (hgd:o.guard = none) (x y:Operand)
 (ho:o.op = .call { callee:=.builtin .append,args:=#[x,y],argTypes:=#[sl,sl] }) {base:Nat} {v:Value} {l:List α} (hs:a.eval x = v) (hown:RecOwn enc e s w base v l) (hb:base ≤ w.heap.size)
 {B:Nat} {vx:Value} {xs:List α} (hx:a.eval y = vx) (hrow:RecAt enc s w B vx xs) (hE:EncOK enc s xs) (hn:l.length + xs.length ≤ 1000000000)
 (h:∀ v' w',AppR enc e s w base v l xs v' w'→wpList Tryz.prog ops Q rest (a.put o.dst v') w'):wpList Tryz.prog ops Q (o :: rest) a w:=by
 refine wpList_plain hgd fun K hK=>?_;obtain ⟨v',w',hr,h2⟩:=run_append_rec T hown hb o.type hrow hE hn;unfold Oper.wp execOp;simp only [ho,resolve,invoke,builtin,Sem.run_bind,Sem.run_pure,Result.andThen_ok,List.map_toArray,List.map_cons,List.map_nil,hs,hx,hr];exact hK _ _ (h v' w' h2)
end
end rec
namespace hp
open Go.RowKit mem words rec
def encW (x:Int):List Value:=[.int .u64 x]
def encF (b:Bool):List Value:=[.bool b]
theorem encW_ok (l:List Int):EncOK encW 1 l:=fun a _=>⟨rfl,fun u hu=>by
 simp only [encW,List.mem_cons,List.not_mem_nil,or_false] at hu;subst hu;rfl⟩
theorem encF_ok (l:List Bool):EncOK encF 1 l:=fun a _=>⟨rfl,fun u hu=>by
 simp only [encF,List.mem_cons,List.not_mem_nil,or_false] at hu;subst hu;rfl⟩
theorem belowA {w wr:World} (h:Below w.heap.size w wr) (o:Obj):Below w.heap.size w (wr.alloc o):=h.alloc h.size _
theorem cell_of_blk {w:World} {g x:Nat} {cur:Array Value} {e:TypeId} {fz:Nat × Nat} (h:w.heap[g]? = some (.cells cur e fz)):w.cell? ⟨g,x,none⟩ = cur[x]?:=by
 unfold World.cell?;rw [h];rfl
theorem belowD {B:Nat} {a w:World} (h:Below B a w):Below B a w.drew:=⟨h.os,h.tape,h.output,h.size,h.block⟩
def PtrP (w:World) (e:Ending) (w':World):Prop:=∃ z,e = .returned (.pointer (some ⟨z,0,none⟩))∧Below w.heap.size w w'
theorem names14 (w:World):Calls Tryz.prog 14 #[] w (PtrP w):=by
 have hmm:=@run_makeMap Tryz.prog;have HB:=Lib.hid (fun o o'=>belowA (belowA (Below.refl _ w) o) o');go_enter Tryz.func14,Tryz.ntmps14;go_wp2_with fail;go_ret;exact ⟨_,rfl,HB.out _ _⟩
theorem blobs15 (w:World):Calls Tryz.prog 15 #[] w (PtrP w):=by
 have hmm:=@run_makeMap Tryz.prog;have HB:=Lib.hid (fun o o' o''=>belowA (belowA (belowA (Below.refl _ w) o) o') o'');go_enter Tryz.func15,Tryz.ntmps15;go_wp2_with fail;go_ret;exact ⟨_,rfl,HB.out _ _ _⟩
abbrev hcells (vY vF:Value) (c:Int) (a b:Nat):Array Value:=#[vY,vF,.slice none 0 0,.slice none 0 0,.int .i64 0,.int .i64 c,.pointer (some ⟨a,0,none⟩),.pointer (some ⟨b,0,none⟩)]
theorem elty_of {sl e s b:Nat} {z:Value} (hu:Tryz.prog.underlying sl = some (.slice e)) (hi:(Tryz.prog.info? e).map (fun i=>(i.zero,i.size,i.bytes)) = some (some z,s,b)) (hz:z.cells.size = s) (hs:0 < s) (hb:b ≤ 10000):ElTy sl e s:=by
 cases hq:Tryz.prog.info? e with
 | none=>rw [hq] at hi;simp at hi
 | some i =>
  rw [hq] at hi;simp only [Option.map_some,Option.some.injEq,Prod.mk.injEq] at hi;exact ⟨hu,⟨i,z,hq,hi.1,hi.2.1,hz,by omega⟩,hs⟩
theorem info4:(Tryz.prog.info? 4).map (fun i=>(i.zero,i.size,i.bytes)) = some (some (.bool false),1,1):=by kernel_rfl
theorem info40:(Tryz.prog.info? 40).map (fun i=>(i.zero,i.size,i.bytes)) = some (some (.int .u64 0),1,8):=by kernel_rfl
theorem elW:ElTy 22 40 1:=elty_of Tryz.underlying22 info40 rfl (by decide) (by decide)
theorem elF:ElTy 99 4 1:=elty_of Tryz.underlying99 info4 rfl (by decide) (by decide)
structure HA (w:World) (B z a b:Nat) (c:Int) (vY vF:Value) (Y:List Int) (F:List Bool):Prop where
 blk:w.heap[z]? = some (.cells (hcells vY vF c a b) 124)
 y:RecOwn encW 40 1 w B vY Y
 f:RecOwn encF 4 1 w B vF F
 hz:B ≤ z
def NewP (a b:Nat) (c:Int) (w:World) (e:Ending) (w':World):Prop:=∃ z,e = .returned (.pointer (some ⟨z,0,none⟩))∧Below w.heap.size w w'∧HA w' w.heap.size z a b c (.slice none 0 0) (.slice none 0 0) [] []
theorem heap17 (w:World) (a b:Nat) (c:Int) (h1:1 ≤ c) (h2:c ≤ 1048576):Calls Tryz.prog 17 #[.pointer (some ⟨a,0,none⟩),.pointer (some ⟨b,0,none⟩),.int .i64 c] w (NewP a b c w):=by
 have q1:decide (c < 1) = false:=decide_eq_false (by omega);have q2:decide ((1048576:Int) < c) = false:=decide_eq_false (by omega);have HB:=Lib.hid (fun o=>belowA (Below.refl _ w) o);clear h1 h2;go_enter Tryz.func17,Tryz.ntmps17;go_wp2_with fail;go_ret;exact ⟨_,rfl,HB.out _,heap_alloc_new w _,RecOwn.nil _ _ _,RecOwn.nil _ _ _,Nat.le_refl _⟩
theorem made66 {w:World} {B z a b:Nat} {c:Int} {vY vF:Value} {Y:List Int} {F:List Bool} (h:HA w B z a b c vY vF Y F):Calls Tryz.prog 66 #[.pointer (some ⟨z,0,none⟩)] w fun e w'=>e = .returned (.bool true)∧w = w':=by
 have c6:w.cell? ⟨z,6,none⟩ = some (.pointer (some ⟨a,0,none⟩)):=(cell_of_blk h.blk).trans rfl;clear h;go_enter Tryz.func66,Tryz.ntmps66;go_wp2_with fail;go_ret;exact ⟨rfl,rfl⟩
theorem HA.below {w w':World} {B z a b:Nat} {c:Int} {vY vF:Value} {Y:List Int} {F:List Bool} (h:HA w B z a b c vY vF Y F) (hb:Below w.heap.size w w'):HA w' B z a b c vY vF Y F :=
 ⟨(hb.block z (Array.getElem?_eq_some_iff.1 h.blk).1).trans h.blk,h.y.below hb,h.f.below hb,h.hz⟩
theorem room39 {w:World} {B z a b:Nat} {c:Int} {vY vF:Value} {Y:List Int} {F:List Bool} (h:HA w B z a b c vY vF Y F) (hl:Y.length ≤ 1000000) (hc:-2000000 ≤ c) (hc2:c ≤ 2000000):Calls Tryz.prog 39 #[.pointer (some ⟨z,0,none⟩)] w fun e w'=>e = .returned (.int .i64 (c - Y.length))∧Below w.heap.size w w':=by
 have HM:=Lib.hid (made66 h);obtain ⟨py,cy,ey,_,_⟩:=h.y.shape;have c0:w.cell? ⟨z,0,none⟩ = some vY:=(cell_of_blk h.blk).trans rfl;have c5:w.cell? ⟨z,5,none⟩ = some (.int .i64 c):=(cell_of_blk h.blk).trans rfl;have hw:wrap64 (c - Y.length) = c - Y.length:=IntWalk.wrap64_in _ (by omega);clear h;subst ey;generalize Y.length = n at *;have HW:=Lib.hid hw;have HB:=Lib.hid (belowD (Below.refl w.heap.size w));clear hl hw;go_enter Tryz.func39,Tryz.ntmps39;go_wp2_with fail;refine HM.out.mono ?_;rintro e w' ⟨rfl,rfl⟩;go_wp2_with fail;go_still (by kernel_rfl)
 go_wp2_with fail;go_ret;refine ⟨?_,HB.out⟩;show Ending.returned (.int .i64 (IntKind.i64.wrap (c - n))) = _;rw [IntWalk.i64_left,HW.out]
theorem used19 {w:World} {B z a b:Nat} {c:Int} {vY vF:Value} {Y:List Int} {F:List Bool} (h:HA w B z a b c vY vF Y F) (hl:Y.length ≤ 1000000):Calls Tryz.prog 19 #[.pointer (some ⟨z,0,none⟩)] w fun e w'=>e = .returned (.int .i64 Y.length)∧Below w.heap.size w w':=by
 have HM:=Lib.hid (made66 h);obtain ⟨py,cy,ey,_,_⟩:=h.y.shape;have c0:w.cell? ⟨z,0,none⟩ = some vY:=(cell_of_blk h.blk).trans rfl;have c2:w.cell? ⟨z,2,none⟩ = some (.slice none 0 0):=(cell_of_blk h.blk).trans rfl;have hw:wrap64 (Y.length:Int) = Y.length:=IntWalk.wrap64_in _ (by omega);clear h;subst ey;generalize Y.length = n at *;have HW:=Lib.hid hw;have HB:=Lib.hid (belowD (Below.refl w.heap.size w));clear hl hw;go_enter Tryz.func19,Tryz.ntmps19;go_wp2_with fail;refine HM.out.mono ?_;rintro e w' ⟨rfl,rfl⟩;go_wp2_with fail;go_still (by kernel_rfl)
 go_wp2_with fail;go_ret;refine ⟨?_,HB.out⟩;show Ending.returned (.int .i64 (IntKind.i64.wrap n)) = _;rw [IntWalk.i64_left,HW.out]
theorem zero_flags (k:Nat):Builtin.zeroCells (Value.bool false).cells k = (List.replicate k (Value.bool false)).toArray:=by
 apply Array.ext
 ·simp [Builtin.zeroCells,Value.cells]
 ·intro i h1 h2;have e:(Builtin.zeroCells (Value.bool false).cells k)[i] = .bool false:=by
   simp [Builtin.zeroCells,Value.cells];rw [Nat.mod_one];rfl
  rw [e];simp
theorem flat_false (k:Nat):(List.replicate k false).flatMap encF = List.replicate k (Value.bool false):=by
 induction k with
 | zero=>rfl
 | succ k ih=>rw [List.replicate_succ,List.flatMap_cons,ih,List.replicate_succ];rfl
theorem run_append_flags {w:World} {base:Nat} {v:Value} {F:List Bool} (h:RecOwn encF 4 1 w base v F) (hb:base ≤ w.heap.size) (ty:TypeId) (k:Nat) (hk:0 < k) (hn:F.length + k ≤ 1000000) :
 ∃ v' w',(Builtin.append_ #[99,3] ty #[v,.int .i64 k]).run Tryz.prog w = .ok v' w'∧AppR encF 4 1 w base v F (List.replicate k false) v' w':=by
 obtain ⟨hund,⟨i,z,hi,hz,hs,hzs,hby⟩,hpos⟩:=elF;have hz':z = .bool false:=by
  have:=info4;rw [hi] at this;simp only [Option.map_some,Option.some.injEq,Prod.mk.injEq] at this;rw [hz] at this;exact Option.some.inj this.1
 have hb1:i.bytes = 1:=by
  have:=info4;rw [hi] at this;simp only [Option.map_some,Option.some.injEq,Prod.mk.injEq] at this;exact this.2.2
 subst hz';have hlen:(F.flatMap encF).length = F.length:=by rw [flat_len (encF_ok F),Nat.mul_one]
 have hw:IntKind.i64.wrap (k:Int) = k:=IntWalk.i64_in _ (by omega);have hai:∀ W:World,(asInt (.int .i64 (k:Int))).run Tryz.prog W = .ok (k:Int) W:=fun W=>by simp [asInt,asIntOf]
 have hk0:¬ ((k:Int) < 0):=by omega
 have h48'':¬ (281474976710656 < (k:Int) * (i.bytes:Int)):=by rw [hb1];omega
 have hks:¬ (k * 1 = 0):=by omega
 have hk':k ≠ 0:=by omega
 have grown:∀ (old:Nat),old < F.length + k→∀ (row:Option Nat),
  RecOwn encF 4 1 (w.drew.alloc (.cells ((F.flatMap encF).toArray ++ Builtin.zeroCells (Value.bool false).cells k ++ Builtin.zeroCells (Value.bool false).cells (grownCap w (F.length + k) old 4 - (F.length + k))) 4)) base (.slice (some ⟨w.heap.size,0,none⟩) (F.length + k) (grownCap w (F.length + k) old 4)) (F ++ List.replicate k false) ∧
  w.grownBy (w.drew.alloc (.cells ((F.flatMap encF).toArray ++ Builtin.zeroCells (Value.bool false).cells k ++ Builtin.zeroCells (Value.bool false).cells (grownCap w (F.length + k) old 4 - (F.length + k))) 4)) row:=by
  intro old ho row;have hge:=grownCap_ge w (F.length + k) old 4;have hcm:grownCap w (F.length + k) old 4 ≤ maxLen:=grownCap_le_maxLen w (F.length + k) old 4 (by unfold maxLen;omega);have hl2:(F ++ List.replicate k false).length = F.length + k:=by simp
  have hfl:((F ++ List.replicate k false).flatMap encF) = F.flatMap encF ++ List.replicate k (Value.bool false):=by rw [List.flatMap_append,flat_false]
  refine ⟨?_,⟨rfl,rfl,rfl,by simp,fun q hq _=>heap_alloc_old w.drew _ hq⟩⟩;unfold RecOwn;rw [hl2,hfl]
  refine ⟨by simp [hlen],.inr ⟨w.heap.size,_,_,rfl,hb,heap_alloc_new w.drew _,hge,hcm,?_,?_⟩⟩
  ·rw [zero_flags,zero_flags];simp only [Array.size_append,List.size_toArray,List.length_replicate,hlen];omega
  ·rw [zero_flags,zero_flags];simp only [Array.toList_append,List.append_assoc];rw [← List.append_assoc];have:(F.length + k) * 1 = (F.flatMap encF ++ List.replicate k (Value.bool false)).length:=by simp [hlen]
   rw [this];exact List.take_left
 have hown:=h;unfold RecOwn at hown;have hnsc:∀ c,c < F.length + k→¬ (281474976710656 < Builtin.nextslicecap (F.length + k) c * i.bytes):=fun c hc=>Nat.not_lt.2 (growslice_fits (by omega) (by rw [hb1];omega))
 rcases hown.2 with ⟨rfl,hF⟩ | ⟨g,cap,cur,rfl,hbg,hg,hnc,hcm,hcs,htake⟩
 ·have hF0:F = []:=List.eq_nil_of_length_eq_zero (by simpa using hF);subst hF0;have hgr:=grown 0 (by simp;omega) (Value.ownBlock (.slice none 0 0));have h1:=hnsc 0 (by simp;omega);simp only [List.length_nil,Nat.zero_add,List.flatMap_nil,List.nil_append] at hgr h1;refine ⟨_,_,?_,hgr.1,hgr.2,.inr rfl⟩;have h63':¬ (9223372036854775807 < (k:Int)):=by omega
  have hn0:¬ (k ≤ 0):=by omega
  simp [Builtin.append_,hai,run_underlying hund,run_underlying Tryz.underlying3,sizeOf,typeInfo,zeroValue,hi,hz,hs,h63',h1,h48'',hw,hk0,hks,hk',hn0,Question.forced,Builtin.firstCells,newRow,grownCap]
 ·by_cases hroom:F.length + k ≤ cap
  ·have hfit:F.length + (List.replicate k (Value.bool false)).length ≤ cur.size:=by rw [hcs,List.length_replicate];omega
   have hst:=run_storeCells_at Tryz.prog g F.length 4 (List.replicate k (Value.bool false)) 0 cur w hg (by simpa using hfit) (fun u hu=>by rw [List.eq_of_mem_replicate hu];rfl);simp only [Nat.add_zero] at hst
   refine ⟨.slice (some ⟨g,0,none⟩) (F.length + k) cap,w.setRow g (cur.toList.take F.length ++ List.replicate k (Value.bool false) ++ cur.toList.drop (F.length + (List.replicate k (Value.bool false)).length)).toArray,?_,⟨?_,⟨rfl,rfl,rfl,by simp,fun q _ hq=>setRow_other w g q _ (fun e=>hq (by simp [Value.ownBlock,e]))⟩,.inl rfl⟩⟩
   ·simp [Builtin.append_,hai,run_underlying hund,run_underlying Tryz.underlying3,sizeOf,typeInfo,zeroValue,hi,hz,hs,hroom,h48'',hw,hk0,hks,hk',Addr.add_lit,zero_flags];rw [hst,Result.andThen_ok];simp
   ·have hl2:(F ++ List.replicate k false).length = F.length + k:=by simp
    have hfl:((F ++ List.replicate k false).flatMap encF) = F.flatMap encF ++ List.replicate k (Value.bool false):=by rw [List.flatMap_append,flat_false]
    have ht1:cur.toList.take F.length = F.flatMap encF:=by simpa using htake
    unfold RecOwn;rw [hl2,hfl]
    refine ⟨by simp [hlen],.inr ⟨g,cap,_,rfl,hbg,setRow_heap w g cur _ 4 _ hg,hroom,hcm,?_,?_⟩⟩
    ·simp only [List.length_replicate] at hfit;simp only [List.size_toArray,List.length_append,List.length_take,List.length_drop,Array.length_toList,List.length_replicate];omega
    ·rw [ht1];have:(F.length + k) * 1 = (F.flatMap encF ++ List.replicate k (Value.bool false)).length:=by simp [hlen]
     rw [this];exact List.take_left
  ·have holds:∀ j u,(F.flatMap encF)[j]? = some u→w.cell? ⟨g,j,none⟩ = some u:=fun j u hu=>by
    have:=hown.cells (g:=g) rfl j u hu;rw [Addr.add_lit,Nat.zero_add] at this;exact this
   have hgr:=grown cap (by omega) (Value.ownBlock (.slice (some ⟨g,0,none⟩) F.length cap));refine ⟨_,_,?_,hgr.1,hgr.2,.inr rfl⟩;have h63':¬ (9223372036854775807 < ((F.length:Int) + (k:Int))):=by omega
   have h1:=hnsc cap (by omega);have hfo:=run_firstCells_some (P:=Tryz.prog) w.drew 1 F.length ⟨g,0,none⟩ F.length cap (F.flatMap encF) (by rw [hlen,Nat.mul_one]) (by intro j u hj;rw [Addr.add_lit,Nat.zero_add];exact holds j u hj);simp [Builtin.append_,hai,run_underlying hund,run_underlying Tryz.underlying3,sizeOf,typeInfo,zeroValue,hi,hz,hs,hroom,h63',h1,h48'',hw,hk0,hks,hk',Question.forced,hfo,newRow,grownCap]
end hp
end Go.Proofs.YtpnlnbolhkcnjaaGreat
