/- HrA,HrB,HrC. No condition beyond theirs. -/
import Derived.Test.YtpnlnbolhkcnjaaGreatP22
set_option linter.unusedSimpArgs false
set_option linter.unusedVariables false
set_option maxHeartbeats 4000000
set_option maxRecDepth 100000
namespace Go.Proofs.YtpnlnbolhkcnjaaGreat.hp
open Go.RowKit mem words rec tm
structure Cap (σ:St) (k:Nat) (m:Int):Prop where
 y:(σ.Y.length:Int) + m ≤ 500000
 n:σ.N.length + 2 * k ≤ 200000
 g0:0 ≤ σ.gv
 g1:σ.gv + k ≤ 500000
 t0:0 ≤ σ.tot
 t1:σ.tot + 2048 * k ≤ 10000000000
 e:∀ x ∈ σ.E,0 ≤ x.2.2∧x.2.2 + k ≤ 500000∧1 ≤ x.1∧x.1 ≤ σ.gv
theorem Cap.less {σ:St} {k k':Nat} {m m':Int} (h:Cap σ k m) (hk:k' ≤ k) (hm:m' ≤ m):Cap σ k' m':=by
 obtain ⟨a,b,c,d,e,f,g⟩:=h;exact ⟨by omega,by omega,c,by omega,e,by omega,fun x hx=>by obtain ⟨p,q,r,s⟩:=g x hx;exact ⟨p,by omega,r,s⟩⟩
theorem addO_Y (x:List Int) (σ:St):(addO x σ).Y.length = σ.Y.length + x.length:=by simp [addO,St.Y]
theorem Cap.add {σ:St} {k:Nat} {m:Int} {x:List Int} (h:Cap σ k (x.length + m)):Cap (addO x σ) k m:=by
 obtain ⟨a,b,c,d,e,f,g⟩:=h;exact ⟨by rw [addO_Y];push_cast;omega,b,c,d,e,f,g⟩
theorem putL_len (N:List ByteArray) (s:ByteArray):(names.putL N s).length ≤ N.length + 1:=by
 unfold names.putL
 split
 ·split <;> simp
 ·omega
theorem putI_bd (N:List ByteArray) (s:ByteArray):0 ≤ names.putI N s∧names.putI N s ≤ N.length:=by
 unfold names.putI
 split
 ·cases h:names.ix N s with
  | none=>simp
  | some i =>
   have:=(names.ix_lt h).1;simp;omega
 ·omega
theorem atomO_Y (s:ByteArray) (σ:St):(atomO s σ).2.Y = σ.Y:=rfl
theorem atomO_ok {σ:St} (s:ByteArray) (h:σ.N.length ≤ 500000):Wok (atomO s σ).1:=by
 obtain ⟨a,b⟩:=putI_bd σ.N s;exact atomW_ok a (by omega)
theorem boxO_1 (k:Int) (l:List Int) (σ:St):(boxO k l σ).1 = ptrW 2 false σ.Y.length:=by
 unfold boxO;dsimp only
theorem cellO_1 (x y:Int) (σ:St):(cellO x y σ).1 = ptrW 1 false σ.Y.length:=by
 unfold cellO;dsimp only
theorem boxO_ok {σ:St} {k:Int} {l:List Int} (h:σ.Y.length ≤ 500000):Wok (boxO k l σ).1:=by
 rw [boxO_1];exact ptrW_ok (.inr rfl) (by omega) (by omega)
theorem listO_cons2 (x y:Int) (l:List Int) (σ:St):listO (x :: y :: l) σ = cellO x (listO (y :: l) σ).1 (listO (y :: l) σ).2:=by
 rw [listO]
theorem boxO_Y (k:Int) (l:List Int) (σ:St):(boxO k l σ).2.Y.length = σ.Y.length + (l.length + 1):=by
 unfold boxO;rw [addO_Y];simp
theorem Cap.name {σ:St} {k:Nat} {m:Int} (s:ByteArray) (h:Cap σ (k + 1) m):Cap (atomO s σ).2 k m:=by
 obtain ⟨a,b,c,d,e,f,g⟩:=h;have:=putL_len σ.N s;exact ⟨a,by show (names.putL σ.N s).length + 2 * k ≤ 200000;omega,c,by show σ.gv + k ≤ _;omega,e,by show σ.tot + _ ≤ _;omega,fun x hx=>by obtain ⟨p,q,r,s⟩:=g x hx;exact ⟨p,by omega,r,s⟩⟩
theorem Cap.name2 {σ:St} {k:Nat} {m:Int} (s s':ByteArray) (h:Cap σ (k + 1) m):Cap (atomO s' (atomO s σ).2).2 k m:=by
 obtain ⟨a,b,c,d,e,f,g⟩:=h;have h1:=putL_len σ.N s;have h2:=putL_len (names.putL σ.N s) s';exact ⟨a,by show (names.putL (names.putL σ.N s) s').length + 2 * k ≤ 200000;omega,c,by show σ.gv + k ≤ _;omega,e,by show σ.tot + _ ≤ _;omega,fun x hx=>by obtain ⟨p,q,r,s⟩:=g x hx;exact ⟨p,by omega,r,s⟩⟩
theorem Cap.box {σ:St} {k:Nat} {m:Int} {q:Int} {l:List Int} (h:Cap σ k (l.length + 1 + m)):Cap (boxO q l σ).2 k m :=
 Cap.add (x:=hdW q l.length :: l) (by simpa using h)
theorem Cap.blob {σ:St} {k:Nat} {m:Int} {s:ByteArray} (hs:s.size ≤ 2048) (h:Cap σ (k + 1) m):Cap (blobO s σ).2 k m∧1 ≤ (blobO s σ).1∧(blobO s σ).1 ≤ 500000:=by
 obtain ⟨a,b,c,d,e,f,g⟩:=h;unfold blobO;cases hi:findE σ.E s with
 | some i =>
  obtain ⟨x,hx,hxs,hl⟩:=findE_get hi;have hg:=g x (List.mem_of_getElem? hx);simp only [hx,Option.map_some,Option.getD_some];refine ⟨⟨a,by show σ.N.length + _ ≤ _;omega,c,by show σ.gv + _ ≤ _;omega,e,by show σ.tot + _ ≤ _;omega,fun y hy=>?_⟩,hg.2.2.1,by omega⟩
  rcases mem_modify hy with hy | ⟨y',hy',rfl⟩
  ·obtain ⟨p,q,r,s⟩:=g y hy;exact ⟨p,by omega,r,s⟩
  ·obtain ⟨p,q,r,s⟩:=g y' hy';exact ⟨by show 0 ≤ y'.2.2 + 1;omega,by show y'.2.2 + 1 + _ ≤ _;omega,r,s⟩
 | none =>
  dsimp only;refine ⟨⟨a,by show σ.N.length + _ ≤ _;omega,by show 0 ≤ σ.gv + 1;omega,by show σ.gv + 1 + _ ≤ _;omega,by show 0 ≤ σ.tot + _;omega,by show σ.tot + _ + _ ≤ _;omega,fun y hy=>?_⟩,by omega,by omega⟩
  rcases List.mem_append.1 hy with hy | hy
  ·obtain ⟨p,q,r,s⟩:=g y hy;exact ⟨p,by omega,r,by show y.1 ≤ σ.gv + 1;omega⟩
  ·rw [List.mem_singleton.1 hy];exact ⟨by show (0:Int) ≤ 1;omega,by show 1 + _ ≤ _;omega,by show 1 ≤ σ.gv + 1;omega,by show σ.gv + 1 ≤ σ.gv + 1;omega⟩
theorem listO_cap:∀ (ws:List Int) (σ:St) (k:Nat) (m:Int),0 ≤ m→ws ≠ []→(∀ x ∈ ws,Wok x)→Cap σ k (2 * ((ws.length:Int) - 1) + m)→Cap (listO ws σ).2 k m∧Wok (listO ws σ).1
 | [],_,_,_,_,h,_,_=>absurd rfl h
 | [x],σ,k,m,_,_,hw,h=>⟨by simpa [listO] using h,hw x (by simp)⟩
 | x :: y :: l,σ,k,m,hm,_,hw,h=>by
  obtain ⟨h1,h2⟩:=listO_cap (y :: l) σ k (2 + m) (by omega) (by simp) (fun v hv=>hw v (by simp [hv])) (h.less (Nat.le_refl _) (by simp only [List.length_cons];push_cast;omega));have hy:=h1.y
  refine ⟨?_,?_⟩
  ·show Cap (addO [x,(listO (y :: l) σ).1] (listO (y :: l) σ).2) k m;exact Cap.add (h1.less (Nat.le_refl _) (by simp))
  ·rw [listO_cons2,cellO_1];exact ptrW_ok (.inl rfl) (by omega) (by omega)
theorem kindO_cap {f:TF} {ws:List Int} {σ:St} {k:Nat} {m:Int} (hm:0 ≤ m) (h9:f.kind = 9→2 ≤ ws.length) (hk:f.kind = 1∨f.kind = 2∨f.kind = 8∨f.kind = 9∨f.kind = 7∨f.kind = 4∨f.kind = 5∨f.kind = 6∨f.kind = 3∨f.kind = 10)
 (h10:f.kind = 10→0 ≤ f.bits∧f.bits ≤ 16384∧f.bytes.size ≤ 2048) (hw:∀ x ∈ ws,Wok x) (h:Cap σ (k + 1) (needF f ws.length + m)):Cap (kindO f ws σ).2 k m∧Wok (kindO f ws σ).1:=by
 have hy:=h.y;have hn:=h.n;have hok:Wok 11:=⟨by omega,by omega,by omega⟩;rcases hk with e | e | e | e | e | e | e | e | e | e
 all_goals
  unfold kindO;unfold needF at h hy;simp only [e,Int.reduceEq,if_true,if_false,or_true,true_or,or_false,false_or] at h hy ⊢
 ·unfold intO;cases hs:smallOk f.int with
  | true =>
   rw [hs] at h;exact ⟨h.less (by omega) (by simp),smallW_ok hs⟩
  | false =>
   rw [hs] at h hy;simp only [Bool.false_eq_true,if_false] at h hy ⊢;exact ⟨Cap.box (h.less (by omega) (by simp)),boxO_ok (by omega)⟩
 ·exact ⟨Cap.name _ (h.less (Nat.le_refl _) (by omega)),atomO_ok _ (by omega)⟩
 ·exact ⟨h.less (by omega) (by omega),hok⟩
 ·have:=h9 e;exact listO_cap ws σ k m hm (fun q=>by rw [q] at this;simp at this) hw (h.less (by omega) (by omega))
 ·exact ⟨Cap.box (h.less (by omega) (by omega)),boxO_ok (by omega)⟩
 ·exact ⟨Cap.box ((Cap.name _ h).less (by omega) (by simp;omega)),boxO_ok (by rw [atomO_Y];omega)⟩
 ·exact ⟨Cap.box ((Cap.name2 _ _ h).less (by omega) (by simp)),boxO_ok (by rw [atomO_Y,atomO_Y];omega)⟩
 ·exact ⟨Cap.box ((Cap.name _ h).less (by omega) (by simp)),boxO_ok (by rw [atomO_Y];omega)⟩
 ·exact ⟨Cap.box ((Cap.name _ h).less (by omega) (by simp)),boxO_ok (by rw [atomO_Y];omega)⟩
 ·obtain ⟨b0,b1,b2⟩:=h10 e;unfold bitsO
  by_cases hb:512 < f.bits
  ·rw [if_pos hb] at h hy ⊢;have hc:=Cap.blob b2 h;have hY:(blobO f.bytes σ).2.Y = σ.Y:=by
    unfold blobO
    split <;> rfl
   exact ⟨Cap.box (hc.1.less (by omega) (by simp)),boxO_ok (by rw [hY];omega)⟩
  ·rw [if_neg hb] at h hy ⊢;refine ⟨Cap.box (h.less (by omega) ?_),boxO_ok (by omega)⟩;simp only [List.length_cons,packI_len]
   push_cast
   omega
theorem okF_kind {n:Nat} {t:Tm (n + 1)} (h:okT t = true):(t.f.kind = 1∨t.f.kind = 2∨t.f.kind = 8∨t.f.kind = 9∨t.f.kind = 7∨t.f.kind = 4∨t.f.kind = 5∨t.f.kind = 6∨t.f.kind = 3∨t.f.kind = 10)∧(t.f.kind = 9→2 ≤ t.items.length)∧(t.f.kind = 10→0 ≤ t.f.bits∧t.f.bits ≤ 16384∧(t.f.bytes.size:Int) = (t.f.bits + 7) / 8):=by
 unfold okT at h;rw [Bool.and_eq_true,Bool.and_eq_true] at h;have h1:=h.2.1;unfold okF at h1
 split at h1
 ·rename_i e;rcases e with e | e <;> simp [e]
 split at h1
 ·rename_i e;simp [e]
 split at h1
 ·rename_i e;rcases e with e | e <;> simp [e]
 split at h1
 ·rename_i e;simp [e]
 split at h1
 ·rename_i e;simp [e]
 split at h1
 ·rename_i e;simp [e]
 split at h1
 ·rename_i e;rw [Bool.and_eq_true] at h1;have:=of_decide_eq_true h1.1;simp [e,this]
 split at h1
 ·rename_i e;unfold okBits inB at h1;rw [Bool.and_eq_true,Bool.and_eq_true] at h1;have a:=of_decide_eq_true h1.1.1;have b:=of_decide_eq_true h1.1.2;simp [e,a,b]
 ·exact absurd h1 (by simp)
def PutCap (n:Nat):Prop:=∀ (t:Tm (n + 1)) (σ:St) (k:Nat) (m:Int),0 ≤ m→formedT t = true→Cap σ (nodesT t + k) (needT (n + 1) t + m)→Cap (putO (n + 1) t σ).2 k m∧Wok (putO (n + 1) t σ).1
theorem itemsO_cap {n:Nat} (ih:PutCap n):∀ (l:List (Tm (n + 1))) (σ:St) (k:Nat) (m:Int),0 ≤ m→formedL (n + 1) l = true→Cap σ (nodesL (n + 1) l + k) (ndL (n + 1) l + m)→Cap (itemsO (putO (n + 1)) l σ).2 k m∧∀ x ∈ (itemsO (putO (n + 1)) l σ).1,Wok x
 | [],σ,k,m,hm,_,h=>⟨h.less (by omega) (by rw [ndL_nil];omega),fun x hx=>by simp [itemsO] at hx⟩
 | t :: l,σ,k,m,hm,hf,h=>by
  have hx:formedT t = true∧formedL (n + 1) l = true:=by
   unfold formedL at hf ⊢;rw [List.all_cons,Bool.and_eq_true] at hf;exact hf
  have hb:=ndL_bd (need_bd n) l hx.2;have e1:nodesL (n + 1) (t :: l) = nodesT t + nodesL (n + 1) l:=by
   rw [nodesL_cons]
  rw [e1,ndL_cons] at h;obtain ⟨h1,h2⟩:=ih t σ (nodesL (n + 1) l + k) (ndL (n + 1) l + m) (by omega) hx.1 (h.less (by omega) (by omega));obtain ⟨h3,h4⟩:=itemsO_cap ih l _ k m hm hx.2 h1;refine ⟨h3,fun x hx=>?_⟩
  rcases List.mem_cons.1 hx with rfl | hx
  ·exact h2
  ·exact h4 x hx
theorem putO_cap:∀ n,PutCap n:=by
 intro n
 induction n with
 | zero =>
  intro t σ k m hm hf h;unfold formedT at hf;rw [Bool.and_eq_true] at hf;obtain ⟨hk,h9,h10⟩:=okF_kind hf.1;have e:=Tm.nil0 t.items;have en:needT 1 t = needF t.f 0:=by rw [need_eq,e,ndL_nil];simp
  rw [en] at h;show Cap (kindO t.f (itemsO (putO 0) t.items σ).1 (itemsO (putO 0) t.items σ).2).2 k m∧_;have e2:itemsO (putO 0) t.items σ = ([],σ):=by rw [e];rfl
  show _∧Wok (kindO t.f (itemsO (putO 0) t.items σ).1 (itemsO (putO 0) t.items σ).2).1;rw [e2]
  refine kindO_cap hm (fun q=>?_) hk (fun q=>?_) (fun x hx=>by simp at hx) (h.less (by unfold nodesT;omega) (Int.le_refl _))
  ·have:=h9 q;rw [e] at this;simp at this
  ·have:=h10 q;exact ⟨this.1,this.2.1,by omega⟩
 | succ n ih =>
  intro t σ k m hm hf h;unfold formedT at hf;rw [Bool.and_eq_true] at hf;obtain ⟨hk,h9,h10⟩:=okF_kind hf.1;obtain ⟨hz,_⟩:=needF_bd t hf.1;rw [need_eq] at h;have en:nodesT t = 1 + nodesL (n + 1) t.items:=by unfold nodesT;omega
  obtain ⟨h1,h2⟩:=itemsO_cap ih t.items σ (k + 1) (needF t.f t.items.length + m) (by omega) hf.2 (h.less (by omega) (by omega));have hlen:=itemsO_len (putO (n + 1)) t.items σ;refine kindO_cap hm (fun q=>by rw [hlen];exact h9 q) hk (fun q=>?_) h2 (by rw [hlen];exact h1);have:=h10 q;exact ⟨this.1,this.2.1,by omega⟩
theorem flat_words (l:List Int):l.flatMap encW = l.map (Value.int .u64):=by
 induction l with
 | nil=>rfl
 | cons x l ih=>rw [List.flatMap_cons,ih];rfl
section
variable {w:World} {B z a b:Nat} {c:Int} {σ:St} {S:Nat→Prop}
theorem RQ.of_below {w1 w':World} {r:Int × St} {e:Ending} (hb:Below w.heap.size w w1) (h:RQ B z a b c S r w1 e w'):RQ B z a b c S r w e w':=⟨h.1,StepQ.of_below hb h.2⟩
theorem boxLit (h:HQ w B z a b c σ S) {k:Int} (h0:1 ≤ k) (h1:k ≤ 8) (xs:List Int) (hw:cl.Wds xs) (hl2:xs.length ≤ 65535) (hl:σ.Y.length + 1 + xs.length ≤ 1000000) :
 Calls Tryz.prog 78 #[.pointer (some ⟨z,0,none⟩),.int .i64 k,.slice (some ⟨w.heap.size,0,none⟩) xs.length xs.length] (w.alloc (.cells (xs.map (Value.int .u64)).toArray 40)) (RQ B z a b c S (boxO k xs σ) w):=by
 have hb:Below w.heap.size w (w.alloc (.cells (xs.map (Value.int .u64)).toArray 40)):=belowA (Below.refl _ w) _
 have hx:RecAt encW 1 (w.alloc (.cells (xs.map (Value.int .u64)).toArray 40)) (w.heap.size + 1) (.slice (some ⟨w.heap.size,0,none⟩) xs.length xs.length) xs :=
  RecAt.fresh (encW_ok xs) (by decide) (by rw [flat_words];exact heap_alloc_new w _) (Nat.le_refl _) (by unfold maxLen;omega)
 exact (boxQ (h.below hb) h0 h1 hx (by rw [World.size_alloc];omega) hl2 hw hl).mono fun e w' hh=>hh.of_below hb
theorem put142 {w:World} {b:Nat} {σ:St} {m1 m2:Nat} (h:Sto w b σ.E σ.gv σ.tot m1 m2) (hw:WE σ.E σ.gv) (s:ByteArray) (hs:s.size ≤ 2048) {m:Int} (hc:Cap σ 1 m):Calls Tryz.prog 142 #[.pointer (some ⟨b,0,none⟩),.string s] w (PutSP b σ m1 m2 s w):=by
 cases hi:findE σ.E s with
 | none=>exact put142n h hw s hs hi hc.g0 (by have:=hc.g1;omega) hc.t0 (by have:=hc.t1;omega)
 | some i=>exact put142y h hw s hs hi fun e he=>by have:=hc.e e he;omega
theorem bitsBig (h:HQ w B z a b c σ S) (s:ByteArray) (n:Int) (hn:512 < n) (hn2:n ≤ 16384) (hs:s.size ≤ 2048) (hc:Cap σ 1 4) :
 Calls Tryz.prog 72 #[.pointer (some ⟨z,0,none⟩),.agg #[.string s,.int .i64 n]] w (RQ B z a b c S (bitsO s n σ) w):=by
 obtain ⟨vY,vF,m,p,cc,m1,m2,h⟩:=h;have e1:bitsO s n σ = boxO 8 [smallW (blobO s σ).1,smallW 0,smallW n] (blobO s σ).2:=by
  unfold bitsO;rw [if_pos hn]
 rw [e1];obtain ⟨hc',i0,i1⟩:=Cap.blob (k:=0) (m:=4) hs hc;have hb0:Below w.heap.size w (w.alloc (.cells #[.string s,.int .i64 n] 49)):=belowA (Below.refl _ w) _;have hx:=heap_alloc_new w (.cells #[.string s,.int .i64 n] 49);have hsz:(w.alloc (.cells #[.string s,.int .i64 n] 49)).heap.size = w.heap.size + 1:=World.size_alloc _ _;generalize hw0:w.alloc (.cells #[.string s,.int .i64 n] 49) = w0 at *;have hb1:=belowD hb0;have h1:=h.same (w':=w0.drew) (fun k hk=>hb1.block k (h.lt k hk));have hx1:w0.drew.heap[w.heap.size]? = some (.cells #[.string s,.int .i64 n] 49):=hx
 have hsz1:w0.drew.heap.size = w.heap.size + 1:=hsz;have HP:=Lib.hid (put142 h1.sto h1.we s hs hc);have HX:=Lib.hid h1;have HB1:=Lib.hid hb1;have HL:=Lib.hid (fun k hk=>h.lt k hk);have c7:w0.drew.cell? ⟨z,7,none⟩ = some (.pointer (some ⟨b,0,none⟩)):=(cell_of_blk h1.ha.blk).trans rfl;have x0:w0.drew.cell? ⟨w.heap.size,0,none⟩ = some (.string s):=(cell_of_blk hx1).trans rfl;have x1:w0.drew.cell? ⟨w.heap.size,1,none⟩ = some (.int .i64 n):=(cell_of_blk hx1).trans rfl;have y1:w0.cell? ⟨w.heap.size,1,none⟩ = some (.int .i64 n):=x1
 have HZ:Hid (z < w.heap.size∧w.heap.size < w0.drew.heap.size):=Lib.hid ⟨(h.ha.hb_lt z (.inl rfl)).2,by omega⟩;have HC:=Lib.hid hc';have qn:decide ((512:Int) < n) = true:=decide_eq_true hn;have HNo:Hid (∀ k,sfoot b m1 m2 k→k < w.heap.size∧k ≠ z):=Lib.hid (fun k hk=>⟨h.sto.lt k hk,fun e=>h.d2 z (.inl rfl) (e ▸ hk)⟩);have EB:Hid ({ σ with E:=(blobO s σ).2.E,gv:=(blobO s σ).2.gv,tot:=(blobO s σ).2.tot } = (blobO s σ).2):=Lib.hid (by unfold blobO;split <;> rfl);generalize hid:(blobO s σ).1 = id at *;unfold PutSP at HP;rw [hid] at HP;clear h h1 hx hx1 hb0 hb1 hsz hsz1 e1 hc hc' hid
 go_enter Tryz.func72,Tryz.ntmps72;go_upto_region 1 with (fail);clear hw0;go_wp2_with fail
 go_region_held3 (fun W=>W.cell? ⟨z,7,none⟩ = some (.pointer (some ⟨b,0,none⟩))∧W.cell? ⟨w.heap.size,0,none⟩ = some (.string s)) (go_keep)
  (first
    | (go_at_call 142;refine HP.out.mono ?_;rintro e W2 ⟨rfl,hSt,hWE,hT⟩;have k7:=(hT.cell (p:=⟨z,7,none⟩) (Nat.lt_trans HZ.out.1 HZ.out.2) (fun hk=>(HNo.out _ hk).2 rfl)).trans c7;have k0:=(hT.cell (p:=⟨w.heap.size,0,none⟩) HZ.out.2 (fun hk=>absurd (HNo.out _ hk).1 (Nat.lt_irrefl _))).trans x0;have k1:=(hT.cell (p:=⟨w.heap.size,1,none⟩) HZ.out.2 (fun hk=>absurd (HNo.out _ hk).1 (Nat.lt_irrefl _))).trans x1;have hq:=HX.out.store hSt hWE hT;rw [EB.out] at hq;obtain ⟨S2,h2,t2,c2⟩:=hq;have H2:=Lib.hid h2;have HT2:=Lib.hid t2;have HC2:=Lib.hid c2;clear hSt hWE hT h2 t2 c2))
 all_goals
  have HBX:=Lib.hid (boxLit (H2.out.below (belowD (Below.refl _ W2))) (k:=8) (by omega) (by omega) [smallW id,smallW 0,smallW n] (fun x hx=>by
   simp only [List.mem_cons,List.not_mem_nil,or_false] at hx
   rcases hx with rfl | rfl | rfl
   ·have:=smallW_ok (n:=id) (by simp [smallOk];omega)
    exact ⟨this.1,this.2.1⟩
   ·have:=smallW_ok (n:=0) (by simp [smallOk])
    exact ⟨this.1,this.2.1⟩
   ·have:=smallW_ok (n:=n) (by simp [smallOk];omega)
    exact ⟨this.1,this.2.1⟩) (by simp) (by have:=HC.out.y;simp;omega))
  have z1:W2.drew.cell? ⟨w.heap.size,1,none⟩ = some (.int .i64 n):=k1;have HKp:Hid (∀ W,StepQ B z a b c S2 W2.drew (boxO 8 [smallW id,smallW 0,smallW n] (blobO s σ).2).2 W→W.cell? ⟨w.heap.size,1,none⟩ = W2.drew.cell? ⟨w.heap.size,1,none⟩):=Lib.hid (fun W hq=>by
   obtain ⟨S3,h3,t3,c3⟩:=hq
   exact t3.cell (p:=⟨w.heap.size,1,none⟩) (Nat.lt_of_lt_of_le HZ.out.2 HT2.out.size) (fun hk=>absurd (HL.out _ (HC2.out _ hk HZ.out.2)) (Nat.lt_irrefl _)))
  clear c7 x0 x1 y1 k7 k0 HP;go_wp2_with fail
  go_region_held3 (fun W=>W.cell? ⟨w.heap.size,1,none⟩ = some (.int .i64 n)) (go_keep)
   (first
     | (go_at_call 79;refine (small79 _ (by omega) (by omega) _).mono ?_;rintro e w' ⟨rfl,rfl⟩)
     | (go_at_call 78;refine HBX.out.mono ?_;rintro e W4 hq;have hq1:=hq.1;subst hq1;have HQ:=Lib.hid hq.2;have k9:=(HKp.out _ hq.2).trans z1;clear hq))
  all_goals
   go_wp2_with fail;go_ret;exact ⟨rfl,StepQ.of_below HB1.out (StepQ.trans HT2.out HC2.out (StepQ.of_below (belowD (Below.refl _ W2)) HQ.out))⟩
end
theorem packN_le (s:ByteArray) (i j:Nat):((packN s i j:Nat):Int) ≤ 18446744073709551615:=by
 have e:∀ k,k < 8→tm8 s i j k ≤ 255 * 2 ^ (56 - 8 * k):=fun k hk=>by
  unfold tm8;have:=byteN_lt s (8 * j + k)
  split
  ·exact Nat.mul_le_mul_right _ (by omega)
  ·omega
 have e0:=e 0 (by omega);have e1:=e 1 (by omega);have e2:=e 2 (by omega);have e3:=e 3 (by omega);have e4:=e 4 (by omega);have e5:=e 5 (by omega);have e6:=e 6 (by omega);have e7:=e 7 (by omega);rw [packN_eq];simp only [Nat.reduceMul,Nat.reduceSub,Nat.reducePow] at *;omega
theorem mkk (W:World) (k:Nat) (hk:k ≤ 100000):(Instr.makeSlice 22 (.int .i64 k) (.int .i64 k)).run Tryz.prog W = .ok (.slice (some ⟨W.heap.size,0,none⟩) k k) (W.alloc (.cells (Array.replicate k (Value.int .u64 0)) 40)):=by
 obtain ⟨hund,⟨i,z,hi,hz,hs,hzs,hby⟩,hpos⟩:=elW;have hz':z = .int .u64 0:=by
  have:=info40;rw [hi] at this;simp only [Option.map_some,Option.some.injEq,Prod.mk.injEq] at this;rw [hz] at this;exact Option.some.inj this.1
 subst hz';have:=run_make (P:=Tryz.prog) W 22 40 i _ hund hi hz .i64 .i64 (k:Int) (k:Int) (by omega) (by omega) (by
  have:i.bytes * k ≤ 10000 * 100000:=Nat.mul_le_mul hby hk
  have h2:((i.bytes * k:Nat):Int) ≤ ((10000 * 100000:Nat):Int):=Int.ofNat_le.2 this
  rw [Int.natCast_mul] at h2
  omega) (by omega)
 rw [hs,Int.toNat_natCast,Nat.mul_one] at this;rw [this];have e:madeCells (Value.int .u64 0).cells k = Array.replicate k (Value.int .u64 0):=by
  apply Array.toList_inj.1;rw [Array.toList_replicate];have:=toList_madeCells_one (.int .u64 0) k;show (madeCells #[Value.int .u64 0] k).toList = _;rw [this]
 rw [e]
abbrev wordsC (l:List Int):Array Value:=(l.map (Value.int .u64)).toArray
theorem words_set (l:List Int) (j:Nat) (x:Int):(wordsC l).setIfInBounds j (.int .u64 x) = wordsC (l.set j x):=by
 unfold wordsC;rw [List.setIfInBounds_toArray,List.map_set]
theorem words_cell {w:World} {g:Nat} {l:List Int} {t:TypeId} {fz:Nat × Nat} (h:w.heap[g]? = some (.cells (wordsC l) t fz)) {j:Nat} {x:Int} (hj:l[j]? = some x):w.cell? ⟨g,j,none⟩ = some (.int .u64 x):=by
 rw [cell_of_blk h];simp [wordsC,hj]
section
variable {w:World} {B z a b:Nat} {c:Int} {σ:St} {S:Nat→Prop}
theorem bitsSm (h:HQ w B z a b c σ S) (s:ByteArray) (n:Int) (h0:0 ≤ n) (hn:n ≤ 512) (hs:(s.size:Int) = (n + 7) / 8) (hc:σ.Y.length + 12 ≤ 1000000) :
 Calls Tryz.prog 72 #[.pointer (some ⟨z,0,none⟩),.agg #[.string s,.int .i64 n]] w (RQ B z a b c S (bitsO s n σ) w):=by
 obtain ⟨nw,hnw⟩:∃ nw:Nat,((n + 63) / 64).toNat = nw:=⟨_,rfl⟩;have hnw':(n + 63) / 64 = (nw:Int):=by omega
 have e1:bitsO s n σ = boxO 7 (smallW n :: packI s s.size nw) σ:=by
  unfold bitsO;rw [if_neg (by omega),hnw]
 rw [e1];have hnw9:nw ≤ 8:=by omega
 have hsz8:s.size ≤ 8 * nw:=by omega
 have hsm:=smallW_ok (n:=n) (by simp [smallOk];omega);have hb0:Below w.heap.size w (w.alloc (.cells #[.string s,.int .i64 n] 49)):=belowA (Below.refl _ w) _;have hx:=heap_alloc_new w (.cells #[.string s,.int .i64 n] 49);have hsz:(w.alloc (.cells #[.string s,.int .i64 n] 49)).heap.size = w.heap.size + 1:=World.size_alloc _ _;generalize hw0:w.alloc (.cells #[.string s,.int .i64 n] 49) = w0 at *;have x0:w0.cell? ⟨w.heap.size,0,none⟩ = some (.string s):=(cell_of_blk hx).trans rfl;have x1:w0.cell? ⟨w.heap.size,1,none⟩ = some (.int .i64 n):=(cell_of_blk hx).trans rfl;have HH:=Lib.hid h
 have HB0:=Lib.hid hb0;have HX:=Lib.hid hx;have HSZ:=Lib.hid hsz;have HE:=Lib.hid hs;have HC:=Lib.hid hc;have HL:=Lib.hid (h.lt);have HSm:=Lib.hid hsm;have H79:=Lib.hid (fun W=>small79 n (by omega) (by omega) W);have HN:=Lib.hid (⟨hnw9,hsz8⟩:nw ≤ 8∧s.size ≤ 8 * nw);have qn:decide ((512:Int) < n) = false:=decide_eq_false (by omega);have w1:IntKind.i64.wrap (n + 63) = n + 63:=IntWalk.i64_in _ (by omega);have w2:Int.tdiv (n + 63) 64 = (nw:Int):=by rw [Int.tdiv_eq_ediv_of_nonneg (by omega)];exact hnw'
 have w3:IntKind.i64.wrap (nw:Int) = nw:=IntWalk.i64_in _ (by omega);have w4:IntKind.i64.wrap (1 + (nw:Int)) = (nw:Int) + 1:=by rw [IntWalk.i64_in _ (by omega)];omega
 have hmk:∀ W:World,(Instr.makeSlice 22 (.int .i64 ((nw:Int) + 1)) (.int .i64 ((nw:Int) + 1))).run Tryz.prog W = .ok (.slice (some ⟨W.heap.size,0,none⟩) (nw + 1) (nw + 1)) (W.alloc (.cells (Array.replicate (nw + 1) (Value.int .u64 0)) 40)):=fun W=>mkk W (nw + 1) (by omega);clear h hx hb0 hsz hs hc hsm e1 hnw hnw' h0 hn hnw9 hsz8;go_enter Tryz.func72,Tryz.ntmps72;go_upto_region 1 with (fail);clear hw0;go_upto_region 5 with (fail);have hg:=heap_alloc_new w0 (.cells (Array.replicate (nw + 1) (Value.int .u64 0)) 40)
 have hb1:Below w0.heap.size w0 (w0.alloc (.cells (Array.replicate (nw + 1) (Value.int .u64 0)) 40)):=belowA (Below.refl _ w0) _;have hs0:=HSZ.out;have hs1:(w0.alloc (.cells (Array.replicate (nw + 1) (Value.int .u64 0)) 40)).heap.size = w0.heap.size + 1:=World.size_alloc _ _;generalize w0.alloc (.cells (Array.replicate (nw + 1) (Value.int .u64 0)) 40) = w1' at *;have fz:=frozen_of_row w1' w0.heap.size 0 _ _ hg;have g0:w1'.cell? ⟨w0.heap.size,0,none⟩ = some (.int .u64 0):=(cell_of_blk hg).trans (by simp);have q0:decide ((0:Int) < (nw:Int) + 1) = true:=decide_eq_true (by omega)
 have X1:w1'.cell? ⟨w.heap.size,1,none⟩ = some (.int .i64 n):=(Below.cell hb1 (show w.heap.size < w0.heap.size by omega)).trans x1;have HS1:=Lib.hid hs1;have HB1:=Lib.hid hb1;clear x0 x1 hs0 hs1 hb1;go_wp2_with fail;refine (H79.out _).mono ?_;rintro e w' ⟨rfl,rfl⟩;go_upto_region 6 with (fail);have eW:Array.replicate (nw + 1) (Value.int .u64 0) = wordsC (0 :: packI s 0 nw):=by
  apply Array.toList_inj.1;rw [packI_zero];simp [wordsC,List.replicate_succ]
 rw [eW] at hg;have hg2:=blk_set (i:=0) hg (.int .u64 (smallW n));rw [words_set,List.set_cons_zero] at hg2;have HB2:=Lib.hid (HB1.out.setCell (p:=⟨w0.heap.size,0,none⟩) (Nat.le_refl _) (.int .u64 (smallW n)));have HG2:=Lib.hid hg2;clear hg hg2 HB1 HS1 g0 fz q0 X1 H79 w1 w2 w3 w4 hmk qn;generalize w1'.setCell ⟨w0.heap.size,0,none⟩ (.int .u64 (smallW n)) = wA at *;clear w1' eW;have hz0:∀ W,Below w0.heap.size w0 W→W.cell? ⟨w.heap.size,0,none⟩ = some (.string s):=fun W hb=>by
  have h:=(hb.block w.heap.size (by have:=HSZ.out;omega)).trans HX.out;exact (cell_of_blk h).trans rfl
 have HZ0:=Lib.hid hz0;clear hz0;go_wp2_with fail;go_loopw [8] (fun s8 wr=>∃ i:Nat,s8 = .int .i64 i∧i ≤ s.size∧Hid (wr.heap[w0.heap.size]? = some (.cells (wordsC (smallW n :: packI s i nw)) 40))∧Hid (Below w0.heap.size w0 wr)) (fun s8 _=>s.size - (intOf s8).toNat)
 case atStart=>exact ⟨0,rfl,by omega,HG2,HB2⟩
 case round =>
  obtain ⟨i,rfl,hi,HG,HB⟩:=hrel;have x0:=HZ0.out _ HB.out
  by_cases hlt:i < s.size
  ·have hj:i / 8 < nw:=by have:=HN.out;omega
   have hi8:8 * (i / 8) + i % 8 = i:=by omega
   have d1:Int.tdiv (i:Int) 8 = ((i / 8:Nat):Int):=by rw [Int.tdiv_eq_ediv_of_nonneg (by omega)];omega
   have d2:Int.tmod (i:Int) 8 = ((i % 8:Nat):Int):=by rw [Int.tmod_eq_emod_of_nonneg (by omega)];omega
   have hr8:i % 8 < 8:=Nat.mod_lt _ (by omega);have hu:IntKind.i64.wrap (1 + ((i / 8:Nat):Int)) = ((i / 8:Nat):Int) + 1:=by rw [IntWalk.i64_in _ (by have:=HN.out;omega)];omega
   have hv:IntKind.i64.wrap ((i / 8:Nat):Int) = ((i / 8:Nat):Int):=IntWalk.i64_in _ (by have:=HN.out;omega);have hx:IntKind.i64.wrap ((i % 8:Nat):Int) = ((i % 8:Nat):Int):=IntWalk.i64_in _ (by omega);have hy:IntKind.u64.wrap ((i % 8:Nat):Int) = ((i % 8:Nat):Int):=IntWalk.u64_in _ (by omega);have hm:IntKind.u64.wrap (8 * ((i % 8:Nat):Int)) = 8 * ((i % 8:Nat):Int):=IntWalk.u64_in _ (by omega);have hs:IntKind.u64.wrap (56 - 8 * ((i % 8:Nat):Int)) = 56 - 8 * ((i % 8:Nat):Int):=IntWalk.u64_in _ (by omega)
   have k1:=words_cell HG.out (j:=i / 8 + 1) (x:=(packN s i (i / 8):Nat)) (by rw [List.getElem?_cons_succ];exact packI_get s i nw _ hj);have fz:=frozen_of_row wr w0.heap.size (i / 8 + 1) _ _ HG.out;have hi64:i < 100:=by have:=HN.out;omega
   have hb1:(0:Int) ≤ ((i / 8:Nat):Int) + 1:=by omega
   have hb2:((i / 8:Nat):Int) + 1 < (nw:Int) + 1:=by omega
   have hb3:((i / 8:Nat):Int) < (nw:Int):=by omega
   have HS:=Lib.hid (packI_step s i nw hj);have hby:(s[i]'hlt).toNat = byteN s i:=by
    unfold byteN;rw [Array.getElem?_eq_getElem (show i < s.data.size from hlt)];rfl
   have HV:Hid (bits .or .u64 ((packN s i (i / 8):Nat):Int) (IntKind.u64.wrap (IntKind.u64.wrap ((s[i]'hlt).toNat:Int) * 2 ^ (56 - 8 * (i % 8)))) = (packN s i (i / 8):Nat) + (byteN s i:Int) * 2 ^ (56 - 8 * (i % 8))):=Lib.hid (by
    have hB:=byteN_lt s i
    have e2:IntKind.u64.wrap (byteN s i:Int) = byteN s i:=IntWalk.u64_in _ (by omega)
    obtain ⟨_,_,hb⟩:=pack_step s (i / 8) (i % 8) (by omega)
    have hmul:byteN s i * 2 ^ (56 - 8 * (i % 8)) ≤ 255 * 2 ^ (56 - 8 * (i % 8)):=Nat.mul_le_mul_right _ (by omega)
    have hc:((byteN s i:Int) * 2 ^ (56 - 8 * (i % 8))) = ((byteN s i * 2 ^ (56 - 8 * (i % 8)):Nat):Int):=by push_cast;rfl
    rw [hby,e2,← pack_or s i]
    congr 1
    exact IntWalk.u64_in _ (by rw [hc];omega))
   clear hby;have H8:=Lib.hid hi8;clear hi8;generalize i / 8 = j at *;generalize i % 8 = r at *;go_wp2_with fail;have k1':wr.drew.cell? ⟨w0.heap.size,j + 1,none⟩ = some (.int .u64 (packN s i j:Nat)):=k1;have x0':wr.drew.cell? ⟨w.heap.size,0,none⟩ = some (.string s):=x0;have fz':wr.drew.frozen? ⟨w0.heap.size,j + 1,none⟩ = false:=fz
   have y0:∀ v,(wr.setCell ⟨w0.heap.size,j + 1,none⟩ v).drew.cell? ⟨w.heap.size,0,none⟩ = some (.string s):=fun v=>(World.cell?_of_block (w:=wr) (w':=wr.setCell ⟨w0.heap.size,j + 1,none⟩ v) (a:=⟨w.heap.size,0,none⟩) (blk_oth wr w0.heap.size (j + 1) v (show w.heap.size ≠ w0.heap.size by have:=HSZ.out;omega))).trans x0;refine wp_region_held_drew (S:=fun W=>W.cell? ⟨w.heap.size,0,none⟩ = some (.string s)) (by kernel_rfl) x0' (fun hHeld=>?_)
   refine wpAnyH_take (i:=0) (oi:={ dst:=some 49,op:=Op.move (Operand.tmp 7),type:=22,pos := "heap.go:185",after:=#[],guard:=none }) (v:=?vv0) rfl (by kernel_rfl) (by kernel_rfl) (by kernel_rfl) (fun _ _ _ h=>h) (Or.inl ⟨by rfl,?hy0⟩) (by assumption) ?rs0;case hy0 =>
    intro w hSw;(try dsimp only at hSw)
    go_simp;(try with_reducible rfl)
   (try simp only [Act.put,List.setIfInBounds_toArray,List.set_cons_zero,List.set_cons_succ])
   refine wpAnyH_take (i:=1) (oi:={ dst:=some 50,op:=Op.move (Operand.tmp 8),type:=3,pos := "heap.go:185",after:=#[],guard:=none }) (v:=?vv1) rfl (by kernel_rfl) (by kernel_rfl) (by kernel_rfl) (fun _ _ _ h=>h) (Or.inl ⟨by rfl,?hy1⟩) (by assumption) ?rs1;case hy1 =>
    intro w hSw;(try dsimp only at hSw)
    go_simp;(try with_reducible rfl)
   (try simp only [Act.put,List.setIfInBounds_toArray,List.set_cons_zero,List.set_cons_succ])
   refine wpAnyH_take (i:=2) (oi:={ dst:=some 51,op:=Op.binOp BinOp.quo 3 (Operand.tmp 50) (Operand.const (Value.int IntKind.i64 8)) 3,type:=3,pos := "heap.go:185",after:=#[{ on:=1,ground:=Ground.data }],guard:=none }) (v:=?vv2) rfl (by kernel_rfl) (by kernel_rfl) (by kernel_rfl) (fun _ _ _ h=>h) (Or.inl ⟨by rfl,?hy2⟩) (by assumption) ?rs2;case hy2 =>
    intro w hSw;(try dsimp only at hSw)
    go_simp;(try with_reducible rfl)
   (try simp only [Act.put,List.setIfInBounds_toArray,List.set_cons_zero,List.set_cons_succ])
   refine wpAnyH_take (i:=3) (oi:={ dst:=some 52,op:=Op.binOp BinOp.add 3 (Operand.const (Value.int IntKind.i64 1)) (Operand.tmp 51) 3,type:=3,pos := "heap.go:185",after:=#[{ on:=2,ground:=Ground.data }],guard:=none }) (v:=?vv3) rfl (by kernel_rfl) (by kernel_rfl) (by kernel_rfl) (fun _ _ _ h=>h) (Or.inl ⟨by rfl,?hy3⟩) (by assumption) ?rs3;case hy3 =>
    intro w hSw;(try dsimp only at hSw)
    go_simp;(try with_reducible rfl)
   (try simp only [Act.put,List.setIfInBounds_toArray,List.set_cons_zero,List.set_cons_succ])
   refine wpAnyH_take (i:=4) (oi:={ dst:=some 53,op:=Op.indexAddr 22 (Operand.tmp 49) (Operand.tmp 52),type:=0,pos := "heap.go:185",after:=#[{ on:=0,ground:=Ground.data },{ on:=3,ground:=Ground.data }],guard:=none }) (v:=?vv4) rfl (by kernel_rfl) (by kernel_rfl) (by kernel_rfl) (fun _ _ _ h=>h) (Or.inl ⟨by rfl,?hy4⟩) (by assumption) ?rs4;case hy4 =>
    intro w hSw;(try dsimp only at hSw)
    go_simp;(try with_reducible rfl)
   (try simp only [Act.put,List.setIfInBounds_toArray,List.set_cons_zero,List.set_cons_succ])
   refine wpAnyH_take (i:=6) (oi:={ dst:=some 55,op:=Op.fieldAddr 49 (Operand.tmp 3) 0,type:=0,pos := "heap.go:185",after:=#[],guard:=none }) (v:=?vv6) rfl (by kernel_rfl) (by kernel_rfl) (by kernel_rfl) (fun _ _ _ h=>h) (Or.inl ⟨by rfl,?hy6⟩) (by assumption) ?rs6;case hy6 =>
    intro w hSw;(try dsimp only at hSw)
    go_simp;(try with_reducible rfl)
   (try simp only [Act.put,List.setIfInBounds_toArray,List.set_cons_zero,List.set_cons_succ])
   refine wpAnyH_take (i:=7) (oi:={ dst:=some 56,op:=Op.load 9 (Operand.tmp 55),type:=9,pos := "heap.go:185",after:=#[{ on:=6,ground:=Ground.data }],guard:=none }) (v:=?vv7) rfl (by kernel_rfl) (by kernel_rfl) (by kernel_rfl) (fun _ _ _ h=>h) (Or.inl ⟨by rfl,?hy7⟩) (by assumption) ?rs7;case hy7 =>
    intro w hSw;(try dsimp only at hSw)
    go_simp;(try with_reducible rfl)
   (try simp only [Act.put,List.setIfInBounds_toArray,List.set_cons_zero,List.set_cons_succ])
   refine wpAnyH_take (i:=8) (oi:={ dst:=some 57,op:=Op.move (Operand.tmp 8),type:=3,pos := "heap.go:185",after:=#[],guard:=none }) (v:=?vv8) rfl (by kernel_rfl) (by kernel_rfl) (by kernel_rfl) (fun _ _ _ h=>h) (Or.inl ⟨by rfl,?hy8⟩) (by assumption) ?rs8;case hy8 =>
    intro w hSw;(try dsimp only at hSw)
    go_simp;(try with_reducible rfl)
   (try simp only [Act.put,List.setIfInBounds_toArray,List.set_cons_zero,List.set_cons_succ])
   refine wpAnyH_take (i:=9) (oi:={ dst:=some 58,op:=Op.index 9 (Operand.tmp 56) (Operand.tmp 57),type:=5,pos := "heap.go:185",after:=#[{ on:=7,ground:=Ground.data },{ on:=8,ground:=Ground.data }],guard:=none }) (v:=?vv9) rfl (by kernel_rfl) (by kernel_rfl) (by kernel_rfl) (fun _ _ _ h=>h) (Or.inl ⟨by rfl,?hy9⟩) (by assumption) ?rs9;case hy9 =>
    intro w hSw;(try dsimp only at hSw)
    go_simp;(try with_reducible rfl)
   (try simp only [Act.put,List.setIfInBounds_toArray,List.set_cons_zero,List.set_cons_succ])
   refine wpAnyH_take (i:=10) (oi:={ dst:=some 59,op:=Op.convert 5 40 (Operand.tmp 58),type:=40,pos := "heap.go:185",after:=#[{ on:=9,ground:=Ground.data }],guard:=none }) (v:=?vv10) rfl (by kernel_rfl) (by kernel_rfl) (by kernel_rfl) (fun _ _ _ h=>h) (Or.inl ⟨by rfl,?hy10⟩) (by assumption) ?rs10;case hy10 =>
    intro w hSw;(try dsimp only at hSw)
    go_simp;(try with_reducible rfl)
   (try simp only [Act.put,List.setIfInBounds_toArray,List.set_cons_zero,List.set_cons_succ])
   refine wpAnyH_take (i:=11) (oi:={ dst:=some 60,op:=Op.move (Operand.tmp 8),type:=3,pos := "heap.go:185",after:=#[],guard:=none }) (v:=?vv11) rfl (by kernel_rfl) (by kernel_rfl) (by kernel_rfl) (fun _ _ _ h=>h) (Or.inl ⟨by rfl,?hy11⟩) (by assumption) ?rs11;case hy11 =>
    intro w hSw;(try dsimp only at hSw)
    go_simp;(try with_reducible rfl)
   (try simp only [Act.put,List.setIfInBounds_toArray,List.set_cons_zero,List.set_cons_succ])
   refine wpAnyH_take (i:=12) (oi:={ dst:=some 61,op:=Op.binOp BinOp.rem 3 (Operand.tmp 60) (Operand.const (Value.int IntKind.i64 8)) 3,type:=3,pos := "heap.go:185",after:=#[{ on:=11,ground:=Ground.data }],guard:=none }) (v:=?vv12) rfl (by kernel_rfl) (by kernel_rfl) (by kernel_rfl) (fun _ _ _ h=>h) (Or.inl ⟨by rfl,?hy12⟩) (by assumption) ?rs12;case hy12 =>
    intro w hSw;(try dsimp only at hSw)
    go_simp;(try with_reducible rfl)
   (try simp only [Act.put,List.setIfInBounds_toArray,List.set_cons_zero,List.set_cons_succ])
   refine wpAnyH_take (i:=13) (oi:={ dst:=some 62,op:=Op.convert 3 195 (Operand.tmp 61),type:=195,pos := "heap.go:185",after:=#[{ on:=12,ground:=Ground.data }],guard:=none }) (v:=?vv13) rfl (by kernel_rfl) (by kernel_rfl) (by kernel_rfl) (fun _ _ _ h=>h) (Or.inl ⟨by rfl,?hy13⟩) (by assumption) ?rs13;case hy13 =>
    intro w hSw;(try dsimp only at hSw)
    go_simp;(try with_reducible rfl)
   (try simp only [Act.put,List.setIfInBounds_toArray,List.set_cons_zero,List.set_cons_succ])
   refine wpAnyH_take (i:=14) (oi:={ dst:=some 63,op:=Op.binOp BinOp.mul 195 (Operand.const (Value.int IntKind.u64 8)) (Operand.tmp 62) 195,type:=195,pos := "heap.go:185",after:=#[{ on:=13,ground:=Ground.data }],guard:=none }) (v:=?vv14) rfl (by kernel_rfl) (by kernel_rfl) (by kernel_rfl) (fun _ _ _ h=>h) (Or.inl ⟨by rfl,?hy14⟩) (by assumption) ?rs14;case hy14 =>
    intro w hSw;(try dsimp only at hSw)
    go_simp;(try with_reducible rfl)
   (try simp only [Act.put,List.setIfInBounds_toArray,List.set_cons_zero,List.set_cons_succ])
   refine wpAnyH_take (i:=15) (oi:={ dst:=some 64,op:=Op.binOp BinOp.sub 195 (Operand.const (Value.int IntKind.u64 56)) (Operand.tmp 63) 195,type:=195,pos := "heap.go:185",after:=#[{ on:=14,ground:=Ground.data }],guard:=none }) (v:=?vv15) rfl (by kernel_rfl) (by kernel_rfl) (by kernel_rfl) (fun _ _ _ h=>h) (Or.inl ⟨by rfl,?hy15⟩) (by assumption) ?rs15;case hy15 =>
    intro w hSw;(try dsimp only at hSw)
    go_simp;(try with_reducible rfl)
   (try simp only [Act.put,List.setIfInBounds_toArray,List.set_cons_zero,List.set_cons_succ])
   refine wpAnyH_take (i:=16) (oi:={ dst:=some 65,op:=Op.binOp BinOp.shl 40 (Operand.tmp 59) (Operand.tmp 64) 195,type:=40,pos := "heap.go:185",after:=#[{ on:=10,ground:=Ground.data },{ on:=15,ground:=Ground.data }],guard:=none }) (v:=?vv16) rfl (by kernel_rfl) (by kernel_rfl) (by kernel_rfl) (fun _ _ _ h=>h) (Or.inl ⟨by rfl,?hy16⟩) (by assumption) ?rs16;case hy16 =>
    intro w hSw;(try dsimp only at hSw)
    go_simp;(try with_reducible rfl)
   (try simp only [Act.put,List.setIfInBounds_toArray,List.set_cons_zero,List.set_cons_succ])
   refine wpAnyH_ready (rs:=[5]) (by kernel_rfl) (by simp) ?_;refine (AllReadyH.cons (o:={ dst:=some 54,op:=Op.load 40 (Operand.tmp 53),type:=40,pos := "heap.go:185",after:=#[{ on:=4,ground:=Ground.data }],guard:=none }) rfl (fun K hK=>?_) AllReadyH.nil);go_simp
   refine hK.out _ _ ?_ (fun hHeld=>?_)
   ·first | exact x0' | exact y0 _
   clear hK K;(try simp only [Act.put,List.setIfInBounds_toArray,List.set_cons_zero,List.set_cons_succ])
   refine wpAnyH_take (i:=17) (oi:={ dst:=some 66,op:=Op.binOp BinOp.or 40 (Operand.tmp 54) (Operand.tmp 65) 40,type:=40,pos := "heap.go:185",after:=#[{ on:=5,ground:=Ground.data },{ on:=16,ground:=Ground.data }],guard:=none }) (v:=?vv17) rfl (by kernel_rfl) (by kernel_rfl) (by kernel_rfl) (fun _ _ _ h=>h) (Or.inl ⟨by rfl,?hy17⟩) (by assumption) ?rs17;case hy17 =>
    intro w hSw;(try dsimp only at hSw)
    go_simp;(try with_reducible rfl)
   (try simp only [Act.put,List.setIfInBounds_toArray,List.set_cons_zero,List.set_cons_succ])
   refine wpAnyH_take (i:=18) (oi:={ dst:=some 67,op:=Op.indexAddr 22 (Operand.tmp 49) (Operand.tmp 52),type:=0,pos := "heap.go:185",after:=#[{ on:=0,ground:=Ground.data },{ on:=3,ground:=Ground.data },{ on:=0,ground:=Ground.phase },{ on:=1,ground:=Ground.phase },{ on:=2,ground:=Ground.phase },{ on:=3,ground:=Ground.phase },{ on:=4,ground:=Ground.phase },{ on:=5,ground:=Ground.phase },{ on:=6,ground:=Ground.phase },{ on:=7,ground:=Ground.phase },{ on:=8,ground:=Ground.phase },{ on:=9,ground:=Ground.phase },{ on:=10,ground:=Ground.phase },{ on:=11,ground:=Ground.phase },{ on:=12,ground:=Ground.phase },{ on:=13,ground:=Ground.phase },{ on:=14,ground:=Ground.phase },{ on:=15,ground:=Ground.phase },{ on:=16,ground:=Ground.phase },{ on:=17,ground:=Ground.phase }],guard:=none }) (v:=?vv18) rfl (by kernel_rfl) (by kernel_rfl) (by kernel_rfl) (fun _ _ _ h=>h) (Or.inl ⟨by rfl,?hy18⟩) (by assumption) ?rs18
   case hy18 =>
    intro w hSw;(try dsimp only at hSw)
    go_simp;(try with_reducible rfl)
   (try simp only [Act.put,List.setIfInBounds_toArray,List.set_cons_zero,List.set_cons_succ])
   refine wpAnyH_ready (rs:=[19]) (by kernel_rfl) (by simp) ?_
   refine (AllReadyH.cons (o:={ dst:=none,op:=Op.store 40 (Operand.tmp 67) (Operand.tmp 66),type:=0,pos := "heap.go:185",after:=#[{ on:=18,ground:=Ground.data },{ on:=17,ground:=Ground.data },{ on:=0,ground:=Ground.phase },{ on:=1,ground:=Ground.phase },{ on:=2,ground:=Ground.phase },{ on:=3,ground:=Ground.phase },{ on:=4,ground:=Ground.phase },{ on:=5,ground:=Ground.phase },{ on:=6,ground:=Ground.phase },{ on:=7,ground:=Ground.phase },{ on:=8,ground:=Ground.phase },{ on:=9,ground:=Ground.phase },{ on:=10,ground:=Ground.phase },{ on:=11,ground:=Ground.phase },{ on:=12,ground:=Ground.phase },{ on:=13,ground:=Ground.phase },{ on:=14,ground:=Ground.phase },{ on:=15,ground:=Ground.phase },{ on:=16,ground:=Ground.phase },{ on:=17,ground:=Ground.phase }],guard:=none }) rfl (fun K hK=>?_) AllReadyH.nil)
   go_simp
   refine hK.out _ _ ?_ (fun hHeld=>?_)
   ·first | exact x0' | exact y0 _
   clear hK K;(try simp only [Act.put,List.setIfInBounds_toArray,List.set_cons_zero,List.set_cons_succ])
   refine wpAnyH_done (by kernel_rfl) ?_ _
   all_goals
    clear k1 k1' x0 x0' fz fz' y0;go_wp2_with fail;go_roundw
    case rel =>
     refine ⟨i + 1,by go_num,by omega,Lib.hid ?_,Lib.hid ((HB.out.setCell (p:=⟨w0.heap.size,j + 1,none⟩) (Nat.le_refl _) _).drew)⟩;have h3:=blk_set (i:=j + 1) HG.out (.int .u64 (packN s i j + (byteN s i:Int) * 2 ^ (56 - 8 * r)));rw [words_set,List.set_cons_succ,← HS.out,← HV.out] at h3;exact h3
    case measure=>simp [intOf];omega
  ·obtain rfl:i = s.size:=by omega
   have hb:=HB0.out.trans (HB.out.mono (by have:=HSZ.out;omega));have hg:=HG.out;have e0:(smallW n :: packI s s.size nw).length = nw + 1:=by simp [packI_len]
   have hrow:RecAt encW 1 wr (w0.heap.size + 1) (.slice (some ⟨w0.heap.size,0,none⟩) (nw + 1) (nw + 1)) (smallW n :: packI s s.size nw):=by
    have:=RecAt.fresh (w:=wr) (g:=w0.heap.size) (e:=40) (l:=smallW n :: packI s s.size nw) (encW_ok _) (by decide) (by rw [flat_words];exact hg) (c:=nw + 1) (by rw [e0];exact Nat.le_refl _) (by unfold maxLen;have:=HN.out;omega);rw [e0] at this;exact this
   have HBX:=Lib.hid ((boxQ (HH.out.below hb) (k:=7) (by omega) (by omega) hrow (Array.getElem?_eq_some_iff.1 hg).1 (by rw [e0];have:=HN.out;omega) (fun x hx=>by
    rcases List.mem_cons.1 hx with rfl | hx
    ·exact ⟨HSm.out.1,HSm.out.2.1⟩
    ·unfold packI at hx
     obtain ⟨q,_,rfl⟩:=List.mem_map.1 hx
     exact ⟨by omega,packN_le s s.size q⟩) (by rw [e0];have:=HC.out;have:=HN.out;omega)).mono fun e w' hh=>hh.of_below hb)
   clear hb hg hrow e0 HG;go_wp2_with fail;refine HBX.out.mono ?_;rintro e W4 hq;have hq1:=hq.1;subst hq1;have HQ:=Lib.hid hq.2;clear hq;go_wp2_with fail;go_ret;exact ⟨rfl,HQ.out⟩
end
end Go.Proofs.YtpnlnbolhkcnjaaGreat.hp
