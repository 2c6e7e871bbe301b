/- HrA,HrB. No condition beyond theirs. -/
import Derived.Test.YtpnlnbolhkcnjaaGreatK26
set_option linter.unusedSimpArgs false
set_option linter.unusedVariables false
set_option maxHeartbeats 4000000
set_option maxRecDepth 100000
namespace Go.Proofs.YtpnlnbolhkcnjaaGreat.hp
open Go.RowKit mem words rec tm
structure Cap (σ:St) (k:Nat) (m:Int):Prop where
 y:(σ.Y.length:Int) + m ≤ 500000
 n:σ.N.length + 2 * k ≤ 200000
 g0:0 ≤ σ.gv
 g1:σ.gv + k ≤ 500000
 t0:0 ≤ σ.tot
 t1:σ.tot + 2048 * k ≤ 10000000000
 e:∀ x ∈ σ.E,0 ≤ x.2.2∧x.2.2 + k ≤ 500000∧1 ≤ x.1∧x.1 ≤ σ.gv
theorem Cap.less {σ:St} {k k':Nat} {m m':Int} (h:Cap σ k m) (hk:k' ≤ k) (hm:m' ≤ m):Cap σ k' m':=by
 obtain ⟨a,b,c,d,e,f,g⟩:=h;exact ⟨by omega,by omega,c,by omega,e,by omega,fun x hx=>by obtain ⟨p,q,r,s⟩:=g x hx;exact ⟨p,by omega,r,s⟩⟩
theorem addO_Y (x:List Int) (σ:St):(addO x σ).Y.length = σ.Y.length + x.length:=by simp [addO,St.Y]
theorem Cap.add {σ:St} {k:Nat} {m:Int} {x:List Int} (h:Cap σ k (x.length + m)):Cap (addO x σ) k m:=by
 obtain ⟨a,b,c,d,e,f,g⟩:=h;exact ⟨by rw [addO_Y];push_cast;omega,b,c,d,e,f,g⟩
theorem putL_len (N:List ByteArray) (s:ByteArray):(names.putL N s).length ≤ N.length + 1:=by
 unfold names.putL
 split
 ·split <;> simp
 ·omega
theorem putI_bd (N:List ByteArray) (s:ByteArray):0 ≤ names.putI N s∧names.putI N s ≤ N.length:=by
 unfold names.putI
 split
 ·cases h:names.ix N s with
  | none=>simp
  | some i =>
   have:=(names.ix_lt h).1;simp;omega
 ·omega
theorem atomO_Y (s:ByteArray) (σ:St):(atomO s σ).2.Y = σ.Y:=rfl
theorem atomO_ok {σ:St} (s:ByteArray) (h:σ.N.length ≤ 500000):Wok (atomO s σ).1:=by
 obtain ⟨a,b⟩:=putI_bd σ.N s;exact atomW_ok a (by omega)
theorem boxO_1 (k:Int) (l:List Int) (σ:St):(boxO k l σ).1 = ptrW 2 false σ.Y.length:=by
 unfold boxO;dsimp only
theorem cellO_1 (x y:Int) (σ:St):(cellO x y σ).1 = ptrW 1 false σ.Y.length:=by
 unfold cellO;dsimp only
theorem boxO_ok {σ:St} {k:Int} {l:List Int} (h:σ.Y.length ≤ 500000):Wok (boxO k l σ).1:=by
 rw [boxO_1];exact ptrW_ok (.inr rfl) (by omega) (by omega)
theorem listO_cons2 (x y:Int) (l:List Int) (σ:St):listO (x :: y :: l) σ = cellO x (listO (y :: l) σ).1 (listO (y :: l) σ).2:=by
 rw [listO]
theorem Cap.name {σ:St} {k:Nat} {m:Int} (s:ByteArray) (h:Cap σ (k + 1) m):Cap (atomO s σ).2 k m:=by
 obtain ⟨a,b,c,d,e,f,g⟩:=h;have:=putL_len σ.N s;exact ⟨a,by show (names.putL σ.N s).length + 2 * k ≤ 200000;omega,c,by show σ.gv + k ≤ _;omega,e,by show σ.tot + _ ≤ _;omega,fun x hx=>by obtain ⟨p,q,r,s⟩:=g x hx;exact ⟨p,by omega,r,s⟩⟩
theorem Cap.name2 {σ:St} {k:Nat} {m:Int} (s s':ByteArray) (h:Cap σ (k + 1) m):Cap (atomO s' (atomO s σ).2).2 k m:=by
 obtain ⟨a,b,c,d,e,f,g⟩:=h;have h1:=putL_len σ.N s;have h2:=putL_len (names.putL σ.N s) s';exact ⟨a,by show (names.putL (names.putL σ.N s) s').length + 2 * k ≤ 200000;omega,c,by show σ.gv + k ≤ _;omega,e,by show σ.tot + _ ≤ _;omega,fun x hx=>by obtain ⟨p,q,r,s⟩:=g x hx;exact ⟨p,by omega,r,s⟩⟩
theorem Cap.box {σ:St} {k:Nat} {m:Int} {q:Int} {l:List Int} (h:Cap σ k (l.length + 1 + m)):Cap (boxO q l σ).2 k m :=
 Cap.add (x:=hdW q l.length :: l) (by simpa using h)
theorem Cap.blob {σ:St} {k:Nat} {m:Int} {s:ByteArray} (hs:s.size ≤ 2048) (h:Cap σ (k + 1) m):Cap (blobO s σ).2 k m∧1 ≤ (blobO s σ).1∧(blobO s σ).1 ≤ 500000:=by
 obtain ⟨a,b,c,d,e,f,g⟩:=h;unfold blobO;cases hi:findE σ.E s with
 | some i =>
  obtain ⟨x,hx,hxs,hl⟩:=findE_get hi;have hg:=g x (List.mem_of_getElem? hx);simp only [hx,Option.map_some,Option.getD_some];refine ⟨⟨a,by show σ.N.length + _ ≤ _;omega,c,by show σ.gv + _ ≤ _;omega,e,by show σ.tot + _ ≤ _;omega,fun y hy=>?_⟩,hg.2.2.1,by omega⟩
  rcases mem_modify hy with hy | ⟨y',hy',rfl⟩
  ·obtain ⟨p,q,r,s⟩:=g y hy;exact ⟨p,by omega,r,s⟩
  ·obtain ⟨p,q,r,s⟩:=g y' hy';exact ⟨by show 0 ≤ y'.2.2 + 1;omega,by show y'.2.2 + 1 + _ ≤ _;omega,r,s⟩
 | none =>
  dsimp only;refine ⟨⟨a,by show σ.N.length + _ ≤ _;omega,by show 0 ≤ σ.gv + 1;omega,by show σ.gv + 1 + _ ≤ _;omega,by show 0 ≤ σ.tot + _;omega,by show σ.tot + _ + _ ≤ _;omega,fun y hy=>?_⟩,by omega,by omega⟩
  rcases List.mem_append.1 hy with hy | hy
  ·obtain ⟨p,q,r,s⟩:=g y hy;exact ⟨p,by omega,r,by show y.1 ≤ σ.gv + 1;omega⟩
  ·rw [List.mem_singleton.1 hy];exact ⟨by show (0:Int) ≤ 1;omega,by show 1 + _ ≤ _;omega,by show 1 ≤ σ.gv + 1;omega,by show σ.gv + 1 ≤ σ.gv + 1;omega⟩
theorem listO_cap:∀ (ws:List Int) (σ:St) (k:Nat) (m:Int),0 ≤ m→ws ≠ []→(∀ x ∈ ws,Wok x)→Cap σ k (2 * ((ws.length:Int) - 1) + m)→Cap (listO ws σ).2 k m∧Wok (listO ws σ).1
 | [],_,_,_,_,h,_,_=>absurd rfl h
 | [x],σ,k,m,_,_,hw,h=>⟨by simpa [listO] using h,hw x (by simp)⟩
 | x :: y :: l,σ,k,m,hm,_,hw,h=>by
  obtain ⟨h1,h2⟩:=listO_cap (y :: l) σ k (2 + m) (by omega) (by simp) (fun v hv=>hw v (by simp [hv])) (h.less (Nat.le_refl _) (by simp only [List.length_cons];push_cast;omega));have hy:=h1.y
  refine ⟨?_,?_⟩
  ·show Cap (addO [x,(listO (y :: l) σ).1] (listO (y :: l) σ).2) k m;exact Cap.add (h1.less (Nat.le_refl _) (by simp))
  ·rw [listO_cons2,cellO_1];exact ptrW_ok (.inl rfl) (by omega) (by omega)
theorem kindO_cap {f:TF} {ws:List Int} {σ:St} {k:Nat} {m:Int} (hm:0 ≤ m) (h9:f.kind = 9→2 ≤ ws.length) (hk:f.kind = 1∨f.kind = 2∨f.kind = 8∨f.kind = 9∨f.kind = 7∨f.kind = 4∨f.kind = 5∨f.kind = 6∨f.kind = 3∨f.kind = 10)
 (h10:f.kind = 10→0 ≤ f.bits∧f.bits ≤ 16384∧f.bytes.size ≤ 2048) (hw:∀ x ∈ ws,Wok x) (h:Cap σ (k + 1) (needF f ws.length + m)):Cap (kindO f ws σ).2 k m∧Wok (kindO f ws σ).1:=by
 have hy:=h.y;have hn:=h.n;have hok:Wok 11:=⟨by omega,by omega,by omega⟩;rcases hk with e | e | e | e | e | e | e | e | e | e
 all_goals
  unfold kindO;unfold needF at h hy;simp only [e,Int.reduceEq,if_true,if_false,or_true,true_or,or_false,false_or] at h hy ⊢
 ·unfold intO;cases hs:smallOk f.int with
  | true =>
   rw [hs] at h;exact ⟨h.less (by omega) (by simp),smallW_ok hs⟩
  | false =>
   rw [hs] at h hy;simp only [Bool.false_eq_true,if_false] at h hy ⊢;exact ⟨Cap.box (h.less (by omega) (by simp)),boxO_ok (by omega)⟩
 ·exact ⟨Cap.name _ (h.less (Nat.le_refl _) (by omega)),atomO_ok _ (by omega)⟩
 ·exact ⟨h.less (by omega) (by omega),hok⟩
 ·have:=h9 e;exact listO_cap ws σ k m hm (fun q=>by rw [q] at this;simp at this) hw (h.less (by omega) (by omega))
 ·exact ⟨Cap.box (h.less (by omega) (by omega)),boxO_ok (by omega)⟩
 ·exact ⟨Cap.box ((Cap.name _ h).less (by omega) (by simp;omega)),boxO_ok (by rw [atomO_Y];omega)⟩
 ·exact ⟨Cap.box ((Cap.name2 _ _ h).less (by omega) (by simp)),boxO_ok (by rw [atomO_Y,atomO_Y];omega)⟩
 ·exact ⟨Cap.box ((Cap.name _ h).less (by omega) (by simp)),boxO_ok (by rw [atomO_Y];omega)⟩
 ·exact ⟨Cap.box ((Cap.name _ h).less (by omega) (by simp)),boxO_ok (by rw [atomO_Y];omega)⟩
 ·obtain ⟨b0,b1,b2⟩:=h10 e;unfold bitsO
  by_cases hb:512 < f.bits
  ·rw [if_pos hb] at h hy ⊢;have hc:=Cap.blob b2 h;have hY:(blobO f.bytes σ).2.Y = σ.Y:=by
    unfold blobO
    split <;> rfl
   exact ⟨Cap.box (hc.1.less (by omega) (by simp)),boxO_ok (by rw [hY];omega)⟩
  ·rw [if_neg hb] at h hy ⊢;refine ⟨Cap.box (h.less (by omega) ?_),boxO_ok (by omega)⟩;simp only [List.length_cons,packI_len]
   push_cast
   omega
theorem okF_kind {n:Nat} {t:Tm (n + 1)} (h:okT t = true):(t.f.kind = 1∨t.f.kind = 2∨t.f.kind = 8∨t.f.kind = 9∨t.f.kind = 7∨t.f.kind = 4∨t.f.kind = 5∨t.f.kind = 6∨t.f.kind = 3∨t.f.kind = 10)∧(t.f.kind = 9→2 ≤ t.items.length)∧(t.f.kind = 10→0 ≤ t.f.bits∧t.f.bits ≤ 16384∧(t.f.bytes.size:Int) = (t.f.bits + 7) / 8):=by
 unfold okT at h;rw [Bool.and_eq_true,Bool.and_eq_true] at h;have h1:=h.2.1;unfold okF at h1
 split at h1
 ·rename_i e;rcases e with e | e <;> simp [e]
 split at h1
 ·rename_i e;simp [e]
 split at h1
 ·rename_i e;rcases e with e | e <;> simp [e]
 split at h1
 ·rename_i e;simp [e]
 split at h1
 ·rename_i e;simp [e]
 split at h1
 ·rename_i e;simp [e]
 split at h1
 ·rename_i e;rw [Bool.and_eq_true] at h1;have:=of_decide_eq_true h1.1;simp [e,this]
 split at h1
 ·rename_i e;unfold okBits inB at h1;rw [Bool.and_eq_true,Bool.and_eq_true] at h1;have a:=of_decide_eq_true h1.1.1;have b:=of_decide_eq_true h1.1.2;simp [e,a,b]
 ·exact absurd h1 (by simp)
def PutCap (n:Nat):Prop:=∀ (t:Tm (n + 1)) (σ:St) (k:Nat) (m:Int),0 ≤ m→formedT t = true→Cap σ (nodesT t + k) (needT (n + 1) t + m)→Cap (putO (n + 1) t σ).2 k m∧Wok (putO (n + 1) t σ).1
theorem itemsO_cap {n:Nat} (ih:PutCap n):∀ (l:List (Tm (n + 1))) (σ:St) (k:Nat) (m:Int),0 ≤ m→formedL (n + 1) l = true→Cap σ (nodesL (n + 1) l + k) (ndL (n + 1) l + m)→Cap (itemsO (putO (n + 1)) l σ).2 k m∧∀ x ∈ (itemsO (putO (n + 1)) l σ).1,Wok x
 | [],σ,k,m,hm,_,h=>⟨h.less (by omega) (by rw [ndL_nil];omega),fun x hx=>by simp [itemsO] at hx⟩
 | t :: l,σ,k,m,hm,hf,h=>by
  have hx:formedT t = true∧formedL (n + 1) l = true:=by
   unfold formedL at hf ⊢;rw [List.all_cons,Bool.and_eq_true] at hf;exact hf
  have hb:=ndL_bd (need_bd n) l hx.2;have e1:nodesL (n + 1) (t :: l) = nodesT t + nodesL (n + 1) l:=by
   rw [nodesL_cons]
  rw [e1,ndL_cons] at h;obtain ⟨h1,h2⟩:=ih t σ (nodesL (n + 1) l + k) (ndL (n + 1) l + m) (by omega) hx.1 (h.less (by omega) (by omega));obtain ⟨h3,h4⟩:=itemsO_cap ih l _ k m hm hx.2 h1;refine ⟨h3,fun x hx=>?_⟩
  rcases List.mem_cons.1 hx with rfl | hx
  ·exact h2
  ·exact h4 x hx
theorem putO_cap:∀ n,PutCap n:=by
 intro n
 induction n with
 | zero =>
  intro t σ k m hm hf h;unfold formedT at hf;rw [Bool.and_eq_true] at hf;obtain ⟨hk,h9,h10⟩:=okF_kind hf.1;have e:=Tm.nil0 t.items;have en:needT 1 t = needF t.f 0:=by rw [need_eq,e,ndL_nil];simp
  rw [en] at h;show Cap (kindO t.f (itemsO (putO 0) t.items σ).1 (itemsO (putO 0) t.items σ).2).2 k m∧_;have e2:itemsO (putO 0) t.items σ = ([],σ):=by rw [e];rfl
  show _∧Wok (kindO t.f (itemsO (putO 0) t.items σ).1 (itemsO (putO 0) t.items σ).2).1;rw [e2]
  refine kindO_cap hm (fun q=>?_) hk (fun q=>?_) (fun x hx=>by simp at hx) (h.less (by unfold nodesT;omega) (Int.le_refl _))
  ·have:=h9 q;rw [e] at this;simp at this
  ·have:=h10 q;exact ⟨this.1,this.2.1,by omega⟩
 | succ n ih =>
  intro t σ k m hm hf h;unfold formedT at hf;rw [Bool.and_eq_true] at hf;obtain ⟨hk,h9,h10⟩:=okF_kind hf.1;obtain ⟨hz,_⟩:=needF_bd t hf.1;rw [need_eq] at h;have en:nodesT t = 1 + nodesL (n + 1) t.items:=by unfold nodesT;omega
  obtain ⟨h1,h2⟩:=itemsO_cap ih t.items σ (k + 1) (needF t.f t.items.length + m) (by omega) hf.2 (h.less (by omega) (by omega));have hlen:=itemsO_len (putO (n + 1)) t.items σ;refine kindO_cap hm (fun q=>by rw [hlen];exact h9 q) hk (fun q=>?_) h2 (by rw [hlen];exact h1);have:=h10 q;exact ⟨this.1,this.2.1,by omega⟩
theorem flat_words (l:List Int):l.flatMap encW = l.map (Value.int .u64):=by
 induction l with
 | nil=>rfl
 | cons x l ih=>rw [List.flatMap_cons,ih];rfl
section
variable {w:World} {B z a b:Nat} {c:Int} {σ:St} {S:Nat→Prop}
theorem RQ.of_below {w1 w':World} {r:Int × St} {e:Ending} (hb:Below w.heap.size w w1) (h:RQ B z a b c S r w1 e w'):RQ B z a b c S r w e w':=⟨h.1,StepQ.of_below hb h.2⟩
theorem boxLit (h:HQ w B z a b c σ S) {k:Int} (h0:1 ≤ k) (h1:k ≤ 8) (xs:List Int) (hw:cl.Wds xs) (hl2:xs.length ≤ 65535) (hl:σ.Y.length + 1 + xs.length ≤ 1000000) :
 Calls Tryz.prog 78 #[.pointer (some ⟨z,0,none⟩),.int .i64 k,.slice (some ⟨w.heap.size,0,none⟩) xs.length xs.length] (w.alloc (.cells (xs.map (Value.int .u64)).toArray 40)) (RQ B z a b c S (boxO k xs σ) w):=by
 have hb:Below w.heap.size w (w.alloc (.cells (xs.map (Value.int .u64)).toArray 40)):=belowA (Below.refl _ w) _
 have hx:RecAt encW 1 (w.alloc (.cells (xs.map (Value.int .u64)).toArray 40)) (w.heap.size + 1) (.slice (some ⟨w.heap.size,0,none⟩) xs.length xs.length) xs :=
  RecAt.fresh (encW_ok xs) (by decide) (by rw [flat_words];exact heap_alloc_new w _) (Nat.le_refl _) (by unfold maxLen;omega)
 exact (boxQ (h.below hb) h0 h1 hx (by rw [World.size_alloc];omega) hl2 hw hl).mono fun e w' hh=>hh.of_below hb
theorem put142 {w:World} {b:Nat} {σ:St} {m1 m2:Nat} (h:Sto w b σ.E σ.gv σ.tot m1 m2) (hw:WE σ.E σ.gv) (s:ByteArray) (hs:s.size ≤ 2048) {m:Int} (hc:Cap σ 1 m):Calls Tryz.prog 142 #[.pointer (some ⟨b,0,none⟩),.string s] w (PutSP b σ m1 m2 s w):=by
 cases hi:findE σ.E s with
 | none=>exact put142n h hw s hs hi hc.g0 (by have:=hc.g1;omega) hc.t0 (by have:=hc.t1;omega)
 | some i=>exact put142y h hw s hs hi fun e he=>by have:=hc.e e he;omega
theorem bitsBig (h:HQ w B z a b c σ S) (s:ByteArray) (n:Int) (hn:512 < n) (hn2:n ≤ 16384) (hs:s.size ≤ 2048) (hc:Cap σ 1 4) :
 Calls Tryz.prog 72 #[.pointer (some ⟨z,0,none⟩),.agg #[.string s,.int .i64 n]] w (RQ B z a b c S (bitsO s n σ) w):=by
 obtain ⟨vY,vF,m,p,cc,m1,m2,h⟩:=h;have e1:bitsO s n σ = boxO 8 [smallW (blobO s σ).1,smallW 0,smallW n] (blobO s σ).2:=by
  unfold bitsO;rw [if_pos hn]
 rw [e1];obtain ⟨hc',i0,i1⟩:=Cap.blob (k:=0) (m:=4) hs hc;have hb0:Below w.heap.size w (w.alloc (.cells #[.string s,.int .i64 n] 49)):=belowA (Below.refl _ w) _;have hx:=heap_alloc_new w (.cells #[.string s,.int .i64 n] 49);have hsz:(w.alloc (.cells #[.string s,.int .i64 n] 49)).heap.size = w.heap.size + 1:=World.size_alloc _ _;generalize hw0:w.alloc (.cells #[.string s,.int .i64 n] 49) = w0 at *;have hb1:=belowD hb0;have h1:=h.same (w':=w0.drew) (fun k hk=>hb1.block k (h.lt k hk));have hx1:w0.drew.heap[w.heap.size]? = some (.cells #[.string s,.int .i64 n] 49):=hx
 have hsz1:w0.drew.heap.size = w.heap.size + 1:=hsz;have HP:=Lib.hid (put142 h1.sto h1.we s hs hc);have HX:=Lib.hid h1;have HB1:=Lib.hid hb1;have HL:=Lib.hid (fun k hk=>h.lt k hk);have c7:w0.drew.cell? ⟨z,7,none⟩ = some (.pointer (some ⟨b,0,none⟩)):=(cell_of_blk h1.ha.blk).trans rfl;have x0:w0.drew.cell? ⟨w.heap.size,0,none⟩ = some (.string s):=(cell_of_blk hx1).trans rfl;have x1:w0.drew.cell? ⟨w.heap.size,1,none⟩ = some (.int .i64 n):=(cell_of_blk hx1).trans rfl;have y1:w0.cell? ⟨w.heap.size,1,none⟩ = some (.int .i64 n):=x1
 have HZ:Hid (z < w.heap.size∧w.heap.size < w0.drew.heap.size):=Lib.hid ⟨(h.ha.hb_lt z (.inl rfl)).2,by omega⟩;have HC:=Lib.hid hc';have qn:decide ((512:Int) < n) = true:=decide_eq_true hn;have HNo:Hid (∀ k,sfoot b m1 m2 k→k < w.heap.size∧k ≠ z):=Lib.hid (fun k hk=>⟨h.sto.lt k hk,fun e=>h.d2 z (.inl rfl) (e ▸ hk)⟩);have EB:Hid ({ σ with E:=(blobO s σ).2.E,gv:=(blobO s σ).2.gv,tot:=(blobO s σ).2.tot } = (blobO s σ).2):=Lib.hid (by unfold blobO;split <;> rfl);generalize hid:(blobO s σ).1 = id at *;unfold PutSP at HP;rw [hid] at HP;clear h h1 hx hx1 hb0 hb1 hsz hsz1 e1 hc hc' hid
 go_enter Tryz.func72,Tryz.ntmps72;go_upto_region 1 with (fail);clear hw0;go_wp2_with fail
 go_region_held3 (fun W=>W.cell? ⟨z,7,none⟩ = some (.pointer (some ⟨b,0,none⟩))∧W.cell? ⟨w.heap.size,0,none⟩ = some (.string s)) (go_keep)
  (first
    | (go_at_call 142;refine HP.out.mono ?_;rintro e W2 ⟨rfl,hSt,hWE,hT⟩;have k7:=(hT.cell (p:=⟨z,7,none⟩) (Nat.lt_trans HZ.out.1 HZ.out.2) (fun hk=>(HNo.out _ hk).2 rfl)).trans c7;have k0:=(hT.cell (p:=⟨w.heap.size,0,none⟩) HZ.out.2 (fun hk=>absurd (HNo.out _ hk).1 (Nat.lt_irrefl _))).trans x0;have k1:=(hT.cell (p:=⟨w.heap.size,1,none⟩) HZ.out.2 (fun hk=>absurd (HNo.out _ hk).1 (Nat.lt_irrefl _))).trans x1;have hq:=HX.out.store hSt hWE hT;rw [EB.out] at hq;obtain ⟨S2,h2,t2,c2⟩:=hq;have H2:=Lib.hid h2;have HT2:=Lib.hid t2;have HC2:=Lib.hid c2;clear hSt hWE hT h2 t2 c2))
 all_goals
  have HBX:=Lib.hid (boxLit (H2.out.below (belowD (Below.refl _ W2))) (k:=8) (by omega) (by omega) [smallW id,smallW 0,smallW n] (fun x hx=>by
   simp only [List.mem_cons,List.not_mem_nil,or_false] at hx
   rcases hx with rfl | rfl | rfl
   ·have:=smallW_ok (n:=id) (by simp [smallOk];omega)
    exact ⟨this.1,this.2.1⟩
   ·have:=smallW_ok (n:=0) (by simp [smallOk])
    exact ⟨this.1,this.2.1⟩
   ·have:=smallW_ok (n:=n) (by simp [smallOk];omega)
    exact ⟨this.1,this.2.1⟩) (by simp) (by have:=HC.out.y;simp;omega))
  have z1:W2.drew.cell? ⟨w.heap.size,1,none⟩ = some (.int .i64 n):=k1;have HKp:Hid (∀ W,StepQ B z a b c S2 W2.drew (boxO 8 [smallW id,smallW 0,smallW n] (blobO s σ).2).2 W→W.cell? ⟨w.heap.size,1,none⟩ = W2.drew.cell? ⟨w.heap.size,1,none⟩):=Lib.hid (fun W hq=>by
   obtain ⟨S3,h3,t3,c3⟩:=hq
   exact t3.cell (p:=⟨w.heap.size,1,none⟩) (Nat.lt_of_lt_of_le HZ.out.2 HT2.out.size) (fun hk=>absurd (HL.out _ (HC2.out _ hk HZ.out.2)) (Nat.lt_irrefl _)))
  clear c7 x0 x1 y1 k7 k0 HP;go_wp2_with fail
  go_region_held3 (fun W=>W.cell? ⟨w.heap.size,1,none⟩ = some (.int .i64 n)) (go_keep)
   (first
     | (go_at_call 79;refine (small79 _ (by omega) (by omega) _).mono ?_;rintro e w' ⟨rfl,rfl⟩)
     | (go_at_call 78;refine HBX.out.mono ?_;rintro e W4 hq;have hq1:=hq.1;subst hq1;have HQ:=Lib.hid hq.2;have k9:=(HKp.out _ hq.2).trans z1;clear hq))
  all_goals
   go_wp2_with fail;go_ret;exact ⟨rfl,StepQ.of_below HB1.out (StepQ.trans HT2.out HC2.out (StepQ.of_below (belowD (Below.refl _ W2)) HQ.out))⟩
end
end Go.Proofs.YtpnlnbolhkcnjaaGreat.hp
