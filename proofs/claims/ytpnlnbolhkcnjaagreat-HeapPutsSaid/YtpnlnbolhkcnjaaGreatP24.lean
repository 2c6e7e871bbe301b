/- TnH,HrD. No condition beyond theirs. -/
import Derived.Test.YtpnlnbolhkcnjaaGreatP23
set_option linter.unusedSimpArgs false
set_option linter.unusedVariables false
set_option maxHeartbeats 4000000
set_option maxRecDepth 100000
namespace Go.Proofs.YtpnlnbolhkcnjaaGreat
namespace tm
open Go.RowKit mem names
theorem info24:(Tryz.prog.info? 38).map (fun i=>(i.zero,i.size,i.bytes)) = some (some (.agg #[.int .i64 0,.int .i64 0,.int .i64 0,.string ⟨#[]⟩,.string ⟨#[]⟩,.int .i64 0,.slice none 0 0,.string ⟨#[]⟩,.int .i64 0]),9,112):=by kernel_rfl
def nineL (f:TF) (v:Value):List Value:=[.int .i64 f.kind,.int .i64 f.int,.int .i64 f.gen,.string f.name,.string f.func,.int .i64 f.arity,v,.string f.bytes,.int .i64 f.bits]
def flatR (rs:List (TF × Value)):List Value:=rs.flatMap (fun r=>nineL r.1 r.2)
theorem flatR_append (a b:List (TF × Value)):flatR (a ++ b) = flatR a ++ flatR b:=by simp [flatR]
theorem flatR_get:∀ (rs:List (TF × Value)) (j:Nat) (h:j < rs.length) (i:Nat),i < 9→(flatR rs)[j * 9 + i]? = (nineL rs[j].1 rs[j].2)[i]?
 | r :: rs,0,h,i,hi=>by
  show (nineL r.1 r.2 ++ flatR rs)[0 * 9 + i]? = _;rw [List.getElem?_append_left (by simp [nineL];omega)];simp
 | r :: rs,j + 1,h,i,hi=>by
  show (nineL r.1 r.2 ++ flatR rs)[(j + 1) * 9 + i]? = _;rw [List.getElem?_append_right (by simp [nineL];omega),show (j + 1) * 9 + i - (nineL r.1 r.2).length = j * 9 + i by simp [nineL];omega];exact flatR_get rs j (by simpa using h) i hi
theorem Cells.of {w:World} {g o:Nat} {f:TF} {v:Value} (h:∀ i,i < 9→w.cell? ⟨g,o + i,none⟩ = (nineL f v)[i]?):Cells w g o f v :=
 ⟨h 0 (by omega),h 1 (by omega),h 2 (by omega),h 3 (by omega),h 4 (by omega),h 5 (by omega),h 6 (by omega),h 7 (by omega),h 8 (by omega)⟩
theorem Cells.all {w:World} {g o:Nat} {f:TF} {v:Value} (h:Cells w g o f v):∀ i,i < 9→w.cell? ⟨g,o + i,none⟩ = (nineL f v)[i]?:=by
 intro i hi
 rcases (show i = 0∨i = 1∨i = 2∨i = 3∨i = 4∨i = 5∨i = 6∨i = 7∨i = 8 by omega) with rfl | rfl | rfl | rfl | rfl | rfl | rfl | rfl | rfl
 ·exact h.c0
 ·exact h.c1
 ·exact h.c2
 ·exact h.c3
 ·exact h.c4
 ·exact h.c5
 ·exact h.c6
 ·exact h.c7
 ·exact h.c8
theorem row_cells {w:World} {base g n cap:Nat} {rs:List (TF × Value)} (h:w.ownsRow base 38 9 (.slice (some ⟨g,0,none⟩) n cap) n (flatR rs)) (hn:rs.length = n) (j:Nat) (hj:j < rs.length):Cells w g (j * 9) rs[j].1 rs[j].2:=by
 refine Cells.of fun i hi=>?_;rw [h.cellAt (j * 9 + i) (by omega)];exact flatR_get rs j hj i hi
def ItemsIn (w:World) (F:Nat→Prop):(n:Nat)→Value→List (Tm n)→Prop
 | 0,v,_=>∃ p c,v = .slice p 0 c∧c ≤ maxLen
 | n + 1,v,l=>∃ p c,v = .slice p l.length c∧l.length ≤ c∧c ≤ maxLen∧(l ≠ []→∃ g o,p = some ⟨g,o,none⟩∧F g ∧
  ∀ j,(h:j < l.length)→∃ u,Cells w g (o + j * 9) (l[j]).f u∧ItemsIn w F n u (l[j]).items)
theorem ItemsIn.mono {w w':World} {F F':Nat→Prop} (hs:∀ g,F g→w'.heap[g]? = w.heap[g]?) (hF:∀ g,F g→F' g):∀ {n:Nat} {v:Value} {l:List (Tm n)},ItemsIn w F n v l→ItemsIn w' F' n v l:=by
 intro n
 induction n with
 | zero=>intro v l h;exact h
 | succ n ih =>
  intro v l h;obtain ⟨p,c,e,h1,h2,h3⟩:=h;refine ⟨p,c,e,h1,h2,fun hn=>?_⟩;obtain ⟨g,o,e,hg,hc⟩:=h3 hn;refine ⟨g,o,e,hF g hg,fun j hj=>?_⟩;obtain ⟨u,hc1,hc2⟩:=hc j hj;exact ⟨u,hc1.same (hs g hg),ih hc2⟩
theorem ItemsIn.toAt {w:World} {F:Nat→Prop} {B:Nat} (hF:∀ g,F g→g < B):∀ {n:Nat} {v:Value} {l:List (Tm n)},ItemsIn w F n v l→ItemsAt w B n v l:=by
 intro n
 induction n with
 | zero=>intro v l h;exact h
 | succ n ih =>
  intro v l h;obtain ⟨p,c,e,h1,h2,h3⟩:=h;refine ⟨p,c,e,h1,h2,fun hn=>?_⟩;obtain ⟨g,o,e,hg,hc⟩:=h3 hn;refine ⟨g,o,e,hF g hg,fun j hj=>?_⟩;obtain ⟨u,hc1,hc2⟩:=hc j hj;exact ⟨u,hc1,ih hc2⟩
theorem ItemsAt.toIn {w:World} {B:Nat}:∀ {n:Nat} {v:Value} {l:List (Tm n)},ItemsAt w B n v l→ItemsIn w (fun g=>g < B) n v l:=by
 intro n
 induction n with
 | zero=>intro v l h;exact h
 | succ n ih =>
  intro v l h;obtain ⟨p,c,e,h1,h2,h3⟩:=h;refine ⟨p,c,e,h1,h2,fun hn=>?_⟩;obtain ⟨g,o,e,hg,hc⟩:=h3 hn;refine ⟨g,o,e,hg,fun j hj=>?_⟩;obtain ⟨u,hc1,hc2⟩:=hc j hj;exact ⟨u,hc1,ih hc2⟩
theorem ItemsIn.nil_any {w:World} {F:Nat→Prop} {n c:Nat} {p:Option Addr} (hc:c ≤ maxLen):ItemsIn w F n (.slice p 0 c) ([]:List (Tm n)):=by
 cases n with
 | zero=>exact ⟨p,c,rfl,hc⟩
 | succ n=>exact ⟨p,c,rfl,Nat.zero_le _,hc,fun h=>absurd rfl h⟩
def PtrOK (w:World) (F:Nat→Prop) (g:Nat) (u:Value):Prop :=
 ∃ p len c,u = .slice p len c∧(len = 0∨∃ g' k cur fz,p = some ⟨g',k * 9,none⟩∧F g'∧g < g'∧w.heap[g']? = some (.cells cur 38 fz)∧(k + len) * 9 ≤ cur.size∧len ≤ maxLen)
def Typed (w:World) (F:Nat→Prop):Prop :=
 ∀ g,F g→∃ cur N,w.heap[g]? = some (.cells cur 38 (0,0))∧cur.size = N * 9∧∀ j,j < N→∃ f u,Cells w g (j * 9) f u∧PtrOK w F g u
theorem PtrOK.nil {w:World} {F:Nat→Prop} {g:Nat}:PtrOK w F g nilV:=⟨none,0,0,rfl,.inl rfl⟩
theorem PtrOK.mono {w w':World} {F F':Nat→Prop} {g:Nat} {u:Value} (h:PtrOK w F g u) (hs:∀ g,F g→w'.heap[g]? = w.heap[g]?) (hF:∀ g,F g→F' g):PtrOK w' F' g u:=by
 obtain ⟨p,len,c,e,h⟩:=h;refine ⟨p,len,c,e,?_⟩
 rcases h with h | ⟨g',k,cur,fz,e,h1,h2,h3,h4⟩
 ·exact .inl h
 ·exact .inr ⟨g',k,cur,fz,e,hF _ h1,h2,(hs _ h1).trans h3,h4⟩
theorem PtrOK.less {w:World} {F:Nat→Prop} {g g':Nat} {u:Value} (h:PtrOK w F g u) (hg:g' ≤ g):PtrOK w F g' u:=by
 obtain ⟨p,len,c,e,h⟩:=h;refine ⟨p,len,c,e,?_⟩
 rcases h with h | ⟨g1,k,cur,fz,e,h1,h2,h3,h4⟩
 ·exact .inl h
 ·exact .inr ⟨g1,k,cur,fz,e,h1,by omega,h3,h4⟩
theorem Typed.same {w w':World} {F:Nat→Prop} (h:Typed w F) (hs:∀ g,F g→w'.heap[g]? = w.heap[g]?):Typed w' F:=by
 intro g hg;obtain ⟨cur,N,h1,h2,h3⟩:=h g hg;refine ⟨cur,N,(hs g hg).trans h1,h2,fun j hj=>?_⟩;obtain ⟨f,u,hc,hp⟩:=h3 j hj;exact ⟨f,u,hc.same (hs g hg),hp.mono hs (fun _ h=>h)⟩
theorem Typed.union {w:World} {F F':Nat→Prop} (h:Typed w F) (h':Typed w F'):Typed w (fun g=>F g∨F' g):=by
 intro g hg
 rcases hg with hg | hg
 ·obtain ⟨cur,N,h1,h2,h3⟩:=h g hg;refine ⟨cur,N,h1,h2,fun j hj=>?_⟩;obtain ⟨f,u,hc,hp⟩:=h3 j hj;exact ⟨f,u,hc,hp.mono (fun _ _=>rfl) (fun _ h=>.inl h)⟩
 ·obtain ⟨cur,N,h1,h2,h3⟩:=h' g hg;refine ⟨cur,N,h1,h2,fun j hj=>?_⟩;obtain ⟨f,u,hc,hp⟩:=h3 j hj;exact ⟨f,u,hc,hp.mono (fun _ _=>rfl) (fun _ h=>.inr h)⟩
theorem Typed.add {w:World} {F:Nat→Prop} (h:Typed w F) {g0:Nat} {cur:Array Value} {N:Nat} (h1:w.heap[g0]? = some (.cells cur 38 (0,0))) (h2:cur.size = N * 9) (h3:∀ j,j < N→∃ f u,Cells w g0 (j * 9) f u∧PtrOK w F g0 u):Typed w (fun g=>F g∨g = g0):=by
 intro g hg
 rcases hg with hg | rfl
 ·obtain ⟨cur,N,h1,h2,h3⟩:=h g hg;refine ⟨cur,N,h1,h2,fun j hj=>?_⟩;obtain ⟨f,u,hc,hp⟩:=h3 j hj;exact ⟨f,u,hc,hp.mono (fun _ _=>rfl) (fun _ h=>.inl h)⟩
 ·refine ⟨cur,N,h1,h2,fun j hj=>?_⟩;obtain ⟨f,u,hc,hp⟩:=h3 j hj;exact ⟨f,u,hc,hp.mono (fun _ _=>rfl) (fun _ h=>.inl h)⟩
structure NewAt (w w':World) (F:Nat→Prop) (n:Nat) (u:Value) (l:List (Tm n)):Prop where
 items:ItemsIn w' F n u l
 inr:∀ g,F g→w.heap.size ≤ g∧g < w'.heap.size
 typed:Typed w' F
 ptr:∀ g,g < w.heap.size→PtrOK w' F g u
 below:Below w.heap.size w w'
section
variable {P:Program} {w:World}
theorem wpList_append_fits {ops:Array Oper} {rest:List Oper} {o:Oper} {a:Act} {Q:Exit→Act→World→Prop} (hgd:o.guard = none) (s x:Operand) (t:TypeId)
 (ho:o.op = .call { callee:=.builtin .append,args:=#[s,x],argTypes:=#[t,t] })
 (base:Nat) (e:TypeId) (i:TypeInfo) (size:Nat) (ht:P.underlying t = some (.slice e)) (hi:P.info? e = some i) (hsize:i.size = size)
 (g n cap:Nat) (xs:List Value) (hs:a.eval s = .slice (some ⟨g,0,none⟩) n cap) (hown:w.ownsRow base e size (.slice (some ⟨g,0,none⟩) n cap) n xs)
 (ad:Addr) (m c:Nat) (news:List Value) (hx:a.eval x = .slice (some ad) m c) (hl:news.length = m * size) (hnews:∀ j u,news[j]? = some u→w.cell? (ad.add j) = some u) (h1:∀ u ∈ news,u.oneCell' = true)
 (hroom:n + m ≤ cap)
 (h:∀ w',w'.ownsRow base e size (.slice (some ⟨g,0,none⟩) (n + m) cap) (n + m) (xs ++ news)→w.grownBy w' (some g)→wpList P ops Q rest (a.put o.dst (.slice (some ⟨g,0,none⟩) (n + m) cap)) w') :
 wpList P ops Q (o :: rest) a w:=by
 refine wpList_plain hgd fun K hK=>?_;obtain ⟨w',hr,h2,h3⟩:=run_append_fits (P:=P) w base t o.type e i size ht hi hsize g n cap xs hown ad m c news hl hnews h1 hroom;unfold Oper.wp execOp;simp only [ho,resolve,invoke,builtin,Sem.run_bind,Sem.run_pure,Result.andThen_ok,List.map_toArray,List.map_cons,List.map_nil,hs,hx,hr];exact hK _ _ (h w' h2 h3)
end
theorem nine_cell (w:World) (f:TF) (v:Value):∀ j u,(nineL f v)[j]? = some u→(w.alloc (cells9 f v)).cell? ((⟨w.heap.size,0,none⟩:Addr).add j) = some u:=by
 intro j u hj;have hA:=(MapKept.heap_alloc w (cells9 f v)).1;unfold cells9 at hA ⊢;rw [Addr.add_lit,Nat.zero_add,cell_of_row _ _ _ _ _ _ hA,← hj];unfold nineL;simp
theorem nine_one (f:TF) (p:Option Addr) (len c:Nat):∀ u ∈ nineL f (.slice p len c),u.oneCell' = true:=by
 intro u hu;simp [nineL] at hu;rcases hu with rfl | rfl | rfl | rfl | rfl | rfl | rfl | rfl | rfl <;> rfl
end tm
namespace hp
open Go.RowKit mem words rec tm
theorem bitsQ {w:World} {B z a b:Nat} {c:Int} {σ:St} {S:Nat→Prop} (h:HQ w B z a b c σ S) (s:ByteArray) (n:Int) (h0:0 ≤ n) (hn:n ≤ 16384) (hs:(s.size:Int) = (n + 7) / 8) (hc:Cap σ 1 (if 512 < n then 4 else 2 + (n + 63) / 64)) :
 Calls Tryz.prog 72 #[.pointer (some ⟨z,0,none⟩),.agg #[.string s,.int .i64 n]] w (RQ B z a b c S (bitsO s n σ) w):=by
 by_cases hb:512 < n
 ·rw [if_pos hb] at hc;exact bitsBig h s n hb hn (by omega) hc
 ·rw [if_neg hb] at hc;have:=hc.y;exact bitsSm h s n h0 (by omega) hs (by omega)
structure LoopI (W0:World) (B z a b:Nat) (c:Int) (S S1:Nat→Prop) (σ1:St) (wr:World) (v:Value) (l:List Int):Prop where
 hq:HQ wr B z a b c σ1 S1
 t:TouchB S W0 wr
 c1:∀ k,S1 k→k < W0.heap.size→S k
 row:RecOwn encW 40 1 wr W0.heap.size v l
 ap:∀ k,v.ownBlock = some k→¬ S1 k
section
variable {w W0 wr wr1 w2:World} {B z a b:Nat} {c:Int} {S S1:Nat→Prop} {σ σ1 σ2:St} {v:Value} {l:List Int}
theorem row_step (h:RecOwn encW 40 1 wr W0.heap.size v l) (ap:∀ k,v.ownBlock = some k→¬ S1 k) (ht:TouchB S1 wr w2):RecOwn encW 40 1 w2 W0.heap.size v l :=
 h.same fun k hk=>ht.block k (h.lt hk).2 (ap k hk)
theorem LoopI.row2 (h:LoopI W0 B z a b c S S1 σ1 wr v l) (hb:Below wr.heap.size wr wr1) (hs:StepQ B z a b c S1 wr1 σ2 w2) (o:Obj):RecOwn encW 40 1 (w2.alloc o) W0.heap.size v l:=by
 obtain ⟨S2,h2,t2,c2⟩:=StepQ.of_below hb hs;exact (row_step h.row h.ap t2).below (belowA (Below.refl _ w2) o)
theorem LoopI.size (h:LoopI W0 B z a b c S S1 σ1 wr v l) (hb:Below wr.heap.size wr wr1) (hs:StepQ B z a b c S1 wr1 σ2 w2) (o:Obj):W0.heap.size ≤ (w2.alloc o).heap.size:=by
 obtain ⟨S2,h2,t2,c2⟩:=StepQ.of_below hb hs;have:=h.t.size;have:=t2.size;rw [World.size_alloc];omega
theorem LoopI.next (h:LoopI W0 B z a b c S S1 σ1 wr v l) (hb:Below wr.heap.size wr wr1) (hs:StepQ B z a b c S1 wr1 σ2 w2) {o:Obj} {x:Int} {v':Value} {w3:World} (hA:AppR encW 40 1 (w2.alloc o) W0.heap.size v l [x] v' w3):∃ S2,LoopI W0 B z a b c S S2 σ2 w3 v' (l ++ [x]):=by
 have hsz:=h.size hb hs o;obtain ⟨S2,h2,t2,c2⟩:=StepQ.of_below hb hs;have hl:=fun k hk=>h.row.lt (k:=k) hk;have t3:TouchB S W0 (w2.alloc o):=(h.t.trans t2 (fun k hk h1=>h.c1 k h1 hk)).alloc o;have c3:∀ k,S2 k→k < W0.heap.size→S k:=fun k hk hlt=>h.c1 k (c2 k hk (Nat.lt_of_lt_of_le hlt h.t.size)) hlt;have ap2:∀ k,v.ownBlock = some k→¬ S2 k:=fun k hk h'=>h.ap k hk (c2 k h' (hl k hk).2);have h2':=h2.below (belowA (Below.refl _ w2) o)
 refine ⟨S2,⟨h2'.same fun k hk=>hA.other (h2'.lt k hk) (fun e=>ap2 k e hk),?_,c3,hA.own,fun k hk h'=>?_⟩⟩
 ·refine hA.touch t3 (fun k hk hlt=>?_);have:=(hl k hk).1;omega
 ·rcases hA.at_ with e | e
  ·exact ap2 k (e ▸ hk) h'
  ·rw [e] at hk;have:=h2'.lt k h';have:=Option.some.inj hk;omega
theorem LoopI.fin (h:LoopI W0 B z a b c S S1 σ1 wr v l) (hb0:Below w.heap.size w W0) {W4:World} (hq:StepQ B z a b c S1 wr σ2 W4):StepQ B z a b c S w σ2 W4:=StepQ.of_below hb0 (StepQ.trans h.t h.c1 hq)
theorem LoopI.keep (h:LoopI W0 B z a b c S S1 σ1 wr v l) {g:Nat} (hg:g < W0.heap.size) (hn:¬ S g):wr.heap[g]? = W0.heap[g]?∧¬ S1 g∧g < wr.heap.size:=⟨h.t.block g hg hn,fun e=>hn (h.c1 g e hg),Nat.lt_of_lt_of_le hg h.t.size⟩
end
structure PutEl (w:World) (B z a b:Nat) (c:Int) (σ:St) (S:Nat→Prop) (p:Option Addr) (len:Nat) (ws:Nat→List Int) (σs:Nat→St) (xs:Nat→Int):Prop where
 w0:ws 0 = []
 s0:σs 0 = σ
 w1:∀ j,j < len→ws (j + 1) = ws j ++ [xs j]
 wl:∀ j,j ≤ len→(ws j).length = j
 ok:∀ j,j ≤ len→∀ x ∈ ws j,Wok x
 el:∀ j,j < len→∃ g o f' q m c',p = some ⟨g,o,none⟩∧g < w.heap.size∧¬ S g∧Cells w g (o + j * 9) f' (.slice q m c') ∧
  ∀ W S1,HQ W B z a b c (σs j) S1→(∀ g,¬ S g→g < w.heap.size→W.heap[g]? = w.heap[g]?)→(∀ k,S1 k→k < w.heap.size→S k)→w.heap.size ≤ W.heap.size →
   Calls Tryz.prog 69 #[.pointer (some ⟨z,0,none⟩),aggV f' (.slice q m c')] W (RQ B z a b c S1 (xs j,σs (j + 1)) W)
def PutS (n:Nat):Prop:=∀ (w:World) (B z a b:Nat) (c:Int) (σ:St) (S:Nat→Prop) (v:Value) (t:Tm (n + 1)),HQ w B z a b c σ S→ItemsIn w (fun g=>¬ S g∧g < w.heap.size) n v t.items→formedT t = true→rngT (n + 1) t→Cap σ (nodesT t) (needT (n + 1) t) →
 Calls Tryz.prog 69 #[.pointer (some ⟨z,0,none⟩),aggV t.f v] w (RQ B z a b c S (putO (n + 1) t σ) w)
theorem itemsIn_shape {w:World} {F:Nat→Prop} {n:Nat} {v:Value} {l:List (Tm n)} (h:ItemsIn w F n v l):∃ p c,v = .slice p l.length c∧l.length ≤ c∧c ≤ maxLen:=by
 cases n with
 | zero =>
  obtain ⟨p,c,rfl,hc⟩:=h;have:=Tm.nil0 l;subst this;exact ⟨p,c,rfl,Nat.zero_le _,hc⟩
 | succ n=>obtain ⟨p,c,e,h1,h2,_⟩:=h;exact ⟨p,c,e,h1,h2⟩
theorem putEl {n:Nat} (ih:∀ m,n = m + 1→PutS m) {w:World} {B z a b:Nat} {c:Int} {σ:St} {S:Nat→Prop} (p:Option Addr) (len cp:Nat) (l:List (Tm n)) (hlen:l.length = len) (hI:ItemsIn w (fun g=>¬ S g∧g < w.heap.size) n (.slice p len cp) l)
 (hf:formedL n l = true) (hr:∀ x ∈ l,rngT n x) {k:Nat} {m:Int} (hm:0 ≤ m) (hc:Cap σ (nodesL n l + k) (ndL n l + m)) :
 ∃ ws σs xs,PutEl w B z a b c σ S p len ws σs xs∧(ws len,σs len) = itemsO (putO n) l σ∧Cap (σs len) k m:=by
 cases n with
 | zero =>
  obtain rfl:=Tm.nil0 l;subst hlen;have hw0:∀ j,j ≤ ([]:List (Tm 0)).length→([]:List Int).length = j:=fun j hj=>by
   have:j = 0:=by simpa using hj
   rw [this];rfl
  exact ⟨fun _=>[],fun _=>σ,fun _=>0,⟨rfl,rfl,fun j hj=>absurd hj (by simp),hw0,fun _ _ x hx=>by simp at hx,fun j hj=>absurd hj (by simp)⟩,rfl,hc.less (by omega) (by rw [ndL_nil];omega)⟩
 | succ n =>
  subst hlen;have hfj:∀ j,(h:j < l.length)→formedT l[j] = true:=fun j h=>by
   unfold formedL at hf;rw [List.all_eq_true] at hf;exact hf l[j] (List.getElem_mem h)
  have hft:∀ j,formedL (n + 1) (l.take j) = true:=fun j=>formed_yes (fun k hk=>by
   rw [List.getElem_take];exact hfj k (by simp at hk;omega))
  have hfd:∀ j,formedL (n + 1) (l.drop j) = true:=fun j=>formed_yes (fun k hk=>by
   rw [List.getElem_drop];exact hfj _ (by simp at hk;omega))
  have hcap:∀ j,j ≤ l.length→Cap (itemsO (putO (n + 1)) (l.take j) σ).2 (nodesL (n + 1) (l.drop j) + k) (ndL (n + 1) (l.drop j) + m)∧∀ x ∈ (itemsO (putO (n + 1)) (l.take j) σ).1,Wok x:=fun j hj=>by
   have e1:nodesL (n + 1) l = nodesL (n + 1) (l.take j) + nodesL (n + 1) (l.drop j):=by rw [← nodesL_append,List.take_append_drop]
   have e2:ndL (n + 1) l = ndL (n + 1) (l.take j) + ndL (n + 1) (l.drop j):=by rw [← ndL_append,List.take_append_drop]
   have hd:=ndL_bd (need_bd n) _ (hfd j);exact itemsO_cap (putO_cap n) (l.take j) σ _ _ (by omega) (hft j) (hc.less (by omega) (by omega))
  refine ⟨fun j=>(itemsO (putO (n + 1)) (l.take j) σ).1,fun j=>(itemsO (putO (n + 1)) (l.take j) σ).2,fun j=>if h:j < l.length then (putO (n + 1) l[j] (itemsO (putO (n + 1)) (l.take j) σ).2).1 else 0,⟨rfl,rfl,fun j hj=>?_,fun j hj=>?_,fun j hj=>(hcap j hj).2,fun j hj=>?_⟩,?_,?_⟩
  ·rw [itemsO_step _ l j hj,dif_pos hj]
  ·rw [itemsO_len,List.length_take];omega
  ·obtain ⟨p',c2,e,_,_,hx⟩:=hI;obtain ⟨g,o,rfl,⟨hg1,hg2⟩,hx⟩:=hx (by intro e;subst e;simp at hj);obtain ⟨u,hC,hI2⟩:=hx j hj;simp only [Value.slice.injEq] at e;obtain ⟨q,c',rfl,_,_⟩:=itemsIn_shape hI2;refine ⟨g,o,l[j].f,q,_,c',e.1,hg2,hg1,hC,fun W S1 hq hW h1 hsz=>?_⟩;rw [dif_pos hj,itemsO_step _ l j hj];have hd:l.drop j = l[j] :: l.drop (j + 1):=List.drop_eq_getElem_cons hj;have hc2:=(hcap j (by omega)).1;have e1:nodesL (n + 1) (l.drop j) = nodesT l[j] + nodesL (n + 1) (l.drop (j + 1)):=by rw [hd,nodesL_cons]
   have e2:ndL (n + 1) (l.drop j) = needT (n + 1) l[j] + ndL (n + 1) (l.drop (j + 1)):=by rw [hd,ndL_cons]
   have hb:=ndL_bd (need_bd n) _ (hfd (j + 1));have hI3:ItemsIn W (fun g=>¬ S1 g∧g < W.heap.size) n (.slice q l[j].items.length c') l[j].items:=hI2.mono (fun g hg=>hW g hg.1 hg.2) (fun g hg=>⟨fun e=>hg.1 (h1 g e hg.2),Nat.lt_of_lt_of_le hg.2 hsz⟩);exact ih n rfl W B z a b c _ S1 _ l[j] hq hI3 (hfj j hj) (hr _ (List.getElem_mem hj)) (hc2.less (by omega) (by omega))
  ·dsimp only;rw [List.take_of_length_le (Nat.le_refl _)]
  ·have:=(hcap l.length (Nat.le_refl _)).1;rw [List.drop_eq_nil_of_le (Nat.le_refl _)] at this;exact this.less (by omega) (by rw [ndL_nil];omega)
end hp
end Go.Proofs.YtpnlnbolhkcnjaaGreat
