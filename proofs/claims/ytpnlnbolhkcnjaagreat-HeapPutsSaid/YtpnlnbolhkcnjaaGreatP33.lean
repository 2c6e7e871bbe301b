/- HrH,HrI. No condition beyond theirs. -/
import Derived.Test.YtpnlnbolhkcnjaaGreatP26
import Derived.Test.YtpnlnbolhkcnjaaGreatP32
set_option linter.unusedSimpArgs false
set_option linter.unusedVariables false
set_option maxHeartbeats 4000000
set_option maxRecDepth 100000
namespace Go.Proofs.YtpnlnbolhkcnjaaGreat.hp
open Go.RowKit mem words rec tm
theorem sgn_toU {n:Int} (h0:-9223372036854775808 ≤ n) (h1:n ≤ 9223372036854775807):sgn (toU n) = n:=by
 unfold sgn toU
 split <;> omega
theorem bare_f {f:TF} {k:Nat} (h:bareOK f k = true):({ bareF f with kind:=0 }:TF) = zeroF∧((if f.kind = 4∨f.kind = 7∨f.kind = 9 then 0 else k) = 0):=by
 unfold bareOK at h;rw [Bool.and_eq_true] at h;refine ⟨?_,of_decide_eq_true h.2⟩
 by_cases e:({ bareF f with kind:=0 }:TF) = zeroF
 ·exact e
 ·rw [eqB_f e] at h;exact absurd h.1 (by simp)
theorem blob_mem (s:ByteArray) (σ:St):∃ c,((blobO s σ).1,s,c) ∈ (blobO s σ).2.E:=by
 unfold blobO;cases hi:findE σ.E s with
 | some i =>
  obtain ⟨x,hx,hxs,hl⟩:=findE_get hi;simp only [hx,Option.map_some,Option.getD_some];refine ⟨x.2.2 + 1,?_⟩;have:(upE σ.E i 1)[i]? = some (x.1,x.2.1,x.2.2 + 1):=by
   unfold upE;rw [List.getElem?_modify];simp [hx]
  rw [← hxs];exact List.mem_of_getElem? this
 | none=>exact ⟨1,by simp⟩
theorem rd_kind {f:TF} {ws:List Int} {σ σ':St} {n:Nat} {last:Int} (hlen:ws.length = n) (hok:okF f n last = true) (hb:bareOK f n = true) (hr:rngF f) (hk:f.kind ≠ 9) (hw:∀ x ∈ ws,Wok x)
 (hc:Cap σ 1 (needF f n)) (h:Ext (kindO f ws σ).2 σ'):RdK σ' (kindO f ws σ).1 f ws:=by
 obtain ⟨hb1,hb2⟩:=bare_f hb;have hy:=hc.y;have hn:=hc.n;obtain ⟨k,i,g,nm,fn,ar,by_,bt⟩:=f;unfold rngF at hr;dsimp only at *;unfold okF at hok;dsimp only at hok;unfold bareF zeroF at hb1;dsimp only at hb1
 split at hok
 ·rename_i e
  rcases e with rfl | rfl
  ·simp only [Int.reduceEq,if_true,if_false,or_self,TF.mk.injEq,true_and,and_true,false_or,or_false] at hb1 hb2;obtain ⟨rfl,rfl,rfl,rfl,rfl,rfl⟩:=hb1;have hws:ws = []:=List.eq_nil_of_length_eq_zero (by omega);subst hws;simp only [kindO,if_true] at h ⊢;unfold intO at h ⊢;cases hs:smallOk i with
   | true =>
    rw [hs] at h;obtain ⟨a,b⟩:=so_small hs;simp only [if_true];exact .inl ⟨rfl,a,by rw [b]⟩
   | false =>
    rw [hs] at h;simp only [Bool.false_eq_true,if_false] at h ⊢;exact rd_box (by omega) (by omega) (by simp) (by unfold needF at hy;simp [hs] at hy;omega) h (.inr (.inr (.inr (.inr (.inr (.inl ⟨rfl,rfl,toU i,rfl,by rw [sgn_toU hr.1 hr.2]⟩))))))
  ·simp only [Int.reduceEq,if_true,if_false,or_self,TF.mk.injEq,true_and,and_true,false_or,or_false] at hb1 hb2;obtain ⟨rfl,rfl,rfl,rfl,rfl,rfl,rfl⟩:=hb1;have hws:ws = []:=List.eq_nil_of_length_eq_zero (by omega);subst hws;exact .inr (.inr (.inl ⟨rfl,rfl,rfl⟩))
 split at hok
 ·rename_i e;subst e;simp only [Int.reduceEq,if_true,if_false,or_self,TF.mk.injEq,true_and,and_true,false_or,or_false] at hb1 hb2;obtain ⟨rfl,rfl,rfl,rfl,rfl,rfl⟩:=hb1;have hws:ws = []:=List.eq_nil_of_length_eq_zero (by omega);subst hws;have eK:kindO ⟨2,0,0,nm,⟨#[]⟩,0,⟨#[]⟩,0⟩ [] σ = atomO nm σ:=by simp [kindO]
  rw [eK] at h ⊢;obtain ⟨a,b,c⟩:=name_atom nm hok (by omega) h;exact .inr (.inl ⟨rfl,c,b,by rw [a]⟩)
 split at hok
 ·rename_i e;simp only [inB,Bool.and_eq_true,decide_eq_true_eq] at hok
  rcases e with rfl | rfl
  ·simp only [Int.reduceEq,if_true,if_false,or_self,or_true,true_or,TF.mk.injEq,true_and,and_true,false_or,or_false] at hb1 hb2;obtain ⟨rfl,rfl,rfl,rfl⟩:=hb1;have hws:ws = []:=List.eq_nil_of_length_eq_zero (by omega);subst hws;have eK:kindO ⟨3,i,g,nm,⟨#[]⟩,0,⟨#[]⟩,0⟩ [] σ = boxO 5 [(atomO nm σ).1,smallW g,smallW i] (atomO nm σ).2:=by simp [kindO]
   rw [eK] at h ⊢;obtain ⟨a,b,c⟩:=name_atom nm hok.2.2 (by omega) ((ext_box _ _ _).trans h);refine rd_box (by omega) (by omega) (by simp) (by rw [atomO_Y];simp [needF] at hy;omega) h (.inr (.inr (.inr (.inr (.inl ⟨rfl,rfl,_,_,_,rfl,?_⟩)))));rw [(so_small (n:=i) (by simp [smallOk];omega)).2,(so_small (n:=g) (by simp [smallOk];omega)).2,a]
  ·simp only [Int.reduceEq,if_true,if_false,or_self,or_true,true_or,TF.mk.injEq,true_and,and_true,false_or,or_false] at hb1 hb2;obtain ⟨rfl,rfl,rfl,rfl⟩:=hb1;have hws:ws = []:=List.eq_nil_of_length_eq_zero (by omega);subst hws;have eK:kindO ⟨6,i,g,nm,⟨#[]⟩,0,⟨#[]⟩,0⟩ [] σ = boxO 4 [(atomO nm σ).1,smallW g,smallW i] (atomO nm σ).2:=by simp [kindO]
   rw [eK] at h ⊢;obtain ⟨a,b,c⟩:=name_atom nm hok.2.2 (by omega) ((ext_box _ _ _).trans h);refine rd_box (by omega) (by omega) (by simp) (by rw [atomO_Y];simp [needF] at hy;omega) h (.inr (.inr (.inr (.inl ⟨rfl,rfl,_,_,_,rfl,?_⟩))));rw [(so_small (n:=i) (by simp [smallOk];omega)).2,(so_small (n:=g) (by simp [smallOk];omega)).2,a]
 split at hok
 ·rename_i e;subst e;simp only [inB,Bool.and_eq_true,decide_eq_true_eq] at hok;simp only [Int.reduceEq,if_true,if_false,or_self,or_true,true_or,TF.mk.injEq,true_and,and_true,false_or,or_false] at hb1 hb2;obtain ⟨rfl,rfl,rfl⟩:=hb1;have eK:kindO ⟨4,i,g,nm,⟨#[]⟩,ar,⟨#[]⟩,0⟩ ws σ = boxO 2 ((atomO nm σ).1 :: smallW g :: smallW i :: smallW ar :: ws) (atomO nm σ).2:=by simp [kindO]
  rw [eK] at h ⊢;obtain ⟨a,b,c⟩:=name_atom nm hok.2.2.1 (by omega) ((ext_box _ _ _).trans h);refine rd_box (by omega) (by omega) (by simp;omega) (by rw [atomO_Y];simp [needF] at hy;omega) h (.inr (.inl ⟨rfl,_,_,_,_,rfl,?_⟩));rw [(so_small (n:=i) (by simp [smallOk];omega)).2,(so_small (n:=g) (by simp [smallOk];omega)).2,(so_small (n:=ar) (by simp [smallOk];omega)).2,a]
 split at hok
 ·rename_i e;subst e;simp only [inB,Bool.and_eq_true,decide_eq_true_eq] at hok;simp only [Int.reduceEq,if_true,if_false,or_self,or_true,true_or,TF.mk.injEq,true_and,and_true,false_or,or_false] at hb1 hb2;obtain ⟨rfl,rfl,rfl,rfl⟩:=hb1;have hws:ws = []:=List.eq_nil_of_length_eq_zero (by omega);subst hws;have eK:kindO ⟨5,0,0,nm,fn,ar,⟨#[]⟩,0⟩ [] σ = boxO 3 [(atomO nm σ).1,(atomO fn (atomO nm σ).2).1,smallW ar] (atomO fn (atomO nm σ).2).2:=by simp [kindO]
  rw [eK] at h ⊢;have hpl:=putL_len σ.N nm;have hX2:=(ext_box _ _ _).trans h;obtain ⟨a,b,c⟩:=name_atom nm hok.1 (by omega) ((ext_atom _ _).trans hX2);obtain ⟨a',b',c'⟩:=name_atom (σ:=(atomO nm σ).2) fn hok.2.1 (by show (names.putL σ.N nm).length ≤ 500000;omega) hX2;refine rd_box (by omega) (by omega) (by simp) (by rw [atomO_Y,atomO_Y];simp [needF] at hy;omega) h (.inr (.inr (.inl ⟨rfl,rfl,_,_,_,rfl,?_⟩)));rw [(so_small (n:=ar) (by simp [smallOk];omega)).2,a,a']
 split at hok
 ·rename_i e;subst e;have hok:=of_decide_eq_true hok;simp only [Int.reduceEq,if_true,if_false,or_self,or_true,true_or,TF.mk.injEq,true_and,and_true,false_or,or_false] at hb1 hb2;obtain ⟨rfl,rfl,rfl,rfl,rfl,rfl,rfl⟩:=hb1;have eK:kindO ⟨7,0,0,⟨#[]⟩,⟨#[]⟩,0,⟨#[]⟩,0⟩ ws σ = boxO 1 ws σ:=by simp [kindO]
  rw [eK] at h ⊢;exact rd_box (by omega) (by omega) (by omega) (by simp [needF] at hy;omega) h (.inl ⟨rfl,rfl,rfl⟩)
 split at hok
 ·rename_i e;subst e;unfold okBits inB at hok;simp only [Bool.and_eq_true,decide_eq_true_eq] at hok;obtain ⟨⟨⟨q0,q1⟩,q2⟩,q3⟩:=hok;simp only [Int.reduceEq,if_true,if_false,or_self,or_true,true_or,TF.mk.injEq,true_and,and_true,false_or,or_false] at hb1 hb2;obtain ⟨rfl,rfl,rfl,rfl,rfl⟩:=hb1;have hws:ws = []:=List.eq_nil_of_length_eq_zero (by omega);subst hws;have eK:kindO ⟨10,0,0,⟨#[]⟩,⟨#[]⟩,0,by_,bt⟩ [] σ = bitsO by_ bt σ:=by simp [kindO]
  rw [eK] at h ⊢;have hB:BitsOk by_ bt:=⟨q0,q1,q2,q3⟩;unfold bitsO at h ⊢
  by_cases hb:512 < bt
  ·rw [if_pos hb] at h ⊢;dsimp only at h ⊢;obtain ⟨hc',i0,i1⟩:=Cap.blob (s:=by_) (k:=0) (m:=needF ⟨10,0,0,⟨#[]⟩,⟨#[]⟩,0,by_,bt⟩ n) (by omega) hc;have hY:(blobO by_ σ).2.Y = σ.Y:=by
    unfold blobO
    split <;> rfl
   have hn0:needF ⟨10,0,0,⟨#[]⟩,⟨#[]⟩,0,by_,bt⟩ n = 4:=by simp [needF,hb]
   obtain ⟨c0,hm⟩:=blob_mem by_ σ;obtain ⟨c1,hm'⟩:=((ext_box _ _ _).trans h).e _ hm;exact rd_box (by omega) (by omega) (by simp) (by rw [hY];omega) h (.inr (.inr (.inr (.inr (.inr (.inr (.inr ⟨rfl,rfl,_,_,_,_,rfl,hm',i0,i1,hB,hb,rfl⟩)))))))
  ·rw [if_neg hb] at h ⊢;have hn0:needF ⟨10,0,0,⟨#[]⟩,⟨#[]⟩,0,by_,bt⟩ n = 2 + (bt + 63) / 64:=by simp [needF,hb]
   exact rd_box (by omega) (by omega) (by simp [packI_len];omega) (by omega) h (.inr (.inr (.inr (.inr (.inr (.inr (.inl ⟨rfl,rfl,_,_,rfl,hB,by omega,rfl⟩)))))))
 ·exact absurd hok (by simp)
theorem rd_cons {α:Type} {d:Int→α→Prop} {σ σ':St} {t u:α} {ts:List α} {x y:Int} {l:List Int} (hw:∀ v ∈ x :: y :: l,Wok v) (hd:d x t) (hc:Cap σ 0 (2 * (((x :: y :: l).length:Int) - 1)))
 (hX:Ext (listO (x :: y :: l) σ).2 σ') (ih:RdL σ' d (listO (y :: l) σ).1 (u :: ts)):RdL σ' d (listO (x :: y :: l) σ).1 (t :: u :: ts):=by
 rw [listO_cons2] at hX ⊢;have hxo:=hw x (by simp);obtain ⟨hcap,hok⟩:=listO_cap (y :: l) σ 0 2 (by omega) (by simp) (fun v hv=>hw v (by simp [hv])) (hc.less (Nat.le_refl _) (by simp only [List.length_cons];push_cast;omega));have hY:=hcap.y;have h4:([x,(listO (y :: l) σ).1]:List Int).headD 0 = x:=rfl;rw [cellO_1];unfold RdL
 refine ⟨ptrW_ok (.inl rfl) (by omega) (by omega),x,(listO (y :: l) σ).1,?_,?_,hxo,hd,ih⟩
 ·refine (pt_new (.inl rfl) (by omega) ⟨fun e=>?_,fun e=>?_⟩ hX).1
  ·rw [h4] at e;exact absurd e hxo.2.2
  ·omega
 ·unfold cl.knd;rw [h4,if_neg hxo.2.2]
theorem rd_list {α:Type} {d:Int→α→Prop} {σ σ':St}:∀ (ts:List α) (ws:List Int),ws.length = ts.length→ts ≠ []→(∀ x ∈ ws,Wok x)→(∀ j,(h:j < ts.length)→∃ x,ws[j]? = some x∧d x ts[j]) →
 (∀ x t,ws.getLast? = some x→ts.getLast? = some t→d x t→¬ ∃ y,cl.Pt (Kb σ') x y∧cl.knd y = 0)→Cap σ 0 (2 * ((ws.length:Int) - 1))→Ext (listO ws σ).2 σ'→RdL σ' d (listO ws σ).1 ts:=by
 intro ts
 induction ts with
 | nil=>intro ws _ h;exact absurd rfl h
 | cons t ts ih =>
  intro ws hlen _ hw hd hl hc hX;obtain ⟨x,ws,rfl⟩:∃ x l,ws = x :: l:=by
   cases ws with
   | nil=>simp at hlen
   | cons x l=>exact ⟨x,l,rfl⟩
  obtain ⟨z,hz,hdz⟩:=hd 0 (by simp);obtain rfl:x = z:=by simpa using hz
  have hdz:d x t:=hdz;cases ts with
  | nil =>
   obtain rfl:ws = []:=List.eq_nil_of_length_eq_zero (by simpa using hlen);exact ⟨hw x (by simp),hdz,hl x t rfl rfl hdz⟩
  | cons u ts =>
   obtain ⟨y,l,rfl⟩:∃ y l,ws = y :: l:=by
    cases ws with
    | nil=>simp at hlen
    | cons x l=>exact ⟨x,l,rfl⟩
   refine rd_cons hw hdz hc hX ?_;have hX':=hX;rw [listO_cons2] at hX';refine ih (y :: l) (by simpa using hlen) (by simp) (fun v hv=>hw v (by simp [hv])) (fun j hj=>?_) (fun a b ha hb=>hl a b (by simpa using ha) (by simpa using hb)) (hc.less (Nat.le_refl _) (by simp only [List.length_cons];push_cast;omega)) ((ext_add _ _).trans hX');obtain ⟨z,hz,hdz⟩:=hd (j + 1) (by simp at hj ⊢;omega);exact ⟨z,by simpa using hz,by simpa using hdz⟩
theorem no_pt {σ:St} {v:Int} (h:v % 4 = 3):¬ ∃ y,cl.Pt (Kb σ) v y:=by
 rintro ⟨y,hp,_⟩;simp only [pOk,decide_eq_true_eq] at hp;omega
theorem mod4 {v:Int} (h:soOk v = true∨aoOk v = true∨v = 11):v % 4 = 3:=by
 rcases h with h | h | h
 ·simp only [soOk,decide_eq_true_eq] at h;omega
 ·simp only [aoOk,decide_eq_true_eq] at h;omega
 ·omega
theorem RdX.kind {σ:St} {k:Int} {l:List Int} {f:TF} {ws:List Int} (h:RdX σ k l f ws):1 ≤ k∧k ≤ 8:=by
 rcases h with h | h | h | h | h | h | h | h <;> (have:=h.1;omega)
theorem not_cell {σ:St} (hP:cl.Pos σ.O) {v:Int} {f:TF} {ws:List Int} (h:RdK σ v f ws):¬ ∃ y,cl.Pt (Kb σ) v y∧cl.knd y = 0:=by
 rcases h with h | h | h | ⟨x,hp,hx⟩
 ·exact fun ⟨y,hy,_⟩=>no_pt (mod4 (.inl h.2.1)) ⟨y,hy⟩
 ·exact fun ⟨y,hy,_⟩=>no_pt (mod4 (.inr (.inl h.2.2.1))) ⟨y,hy⟩
 ·exact fun ⟨y,hy,_⟩=>no_pt (mod4 (.inr (.inr h.2.1))) ⟨y,hy⟩
 ·rintro ⟨y,hy,h0⟩;have hpos:(Kb σ).pos:=⟨hP,fun o ho=>by simp [Kb] at ho⟩;obtain rfl:=cl.Pt.uniq hpos hy hp;have:=hx.kind.1;omega
theorem list_f {f:TF} (h:f.kind = 9) (hb:({ bareF f with kind:=0 }:TF) = zeroF):f = ⟨9,0,0,e0,e0,0,e0,0⟩:=by
 obtain ⟨k,i,g,nm,fn,ar,by_,bt⟩:=f;dsimp only at h;subst h;unfold bareF zeroF at hb;simp only [Int.reduceEq,if_true,if_false,or_self,TF.mk.injEq,true_and,and_true,false_or,or_false] at hb;obtain ⟨rfl,rfl,rfl,rfl,rfl,rfl,rfl⟩:=hb;rfl
theorem last_ne {f:TF} {n:Nat} {last:Int} (h:okF f n last = true) (h9:f.kind = 9):last ≠ 9:=by
 unfold okF at h;rw [h9] at h;simp only [Int.reduceEq,if_true,if_false,or_self,or_false,false_or,Bool.and_eq_true,decide_eq_true_eq] at h;exact h.2
def PutRd (n:Nat):Prop:=∀ (t:Tm (n + 1)) (σ σ':St),cl.Pos σ'.O→formedT t = true→rngT (n + 1) t→Cap σ (nodesT t) (needT (n + 1) t)→Ext (putO (n + 1) t σ).2 σ'→RdT σ' (n + 1) (putO (n + 1) t σ).1 t
theorem items_rd {n:Nat} (ih:PutRd n) {σ':St} (hP:cl.Pos σ'.O):∀ (l:List (Tm (n + 1))) (σ:St) (k:Nat) (m:Int),0 ≤ m→formedL (n + 1) l = true→(∀ x ∈ l,rngT (n + 1) x)→Cap σ (nodesL (n + 1) l + k) (ndL (n + 1) l + m)→Ext (itemsO (putO (n + 1)) l σ).2 σ' →
 ∀ j,(h:j < l.length)→∃ x,(itemsO (putO (n + 1)) l σ).1[j]? = some x∧Wok x∧RdT σ' (n + 1) x l[j]
 | [],_,_,_,_,_,_,_,_,j,h=>absurd h (by simp)
 | t :: l,σ,k,m,hm,hf,hr,hc,hX,j,hj=>by
  have hx:formedT t = true∧formedL (n + 1) l = true:=by
   unfold formedL at hf ⊢;rw [List.all_cons,Bool.and_eq_true] at hf;exact hf
  have hb:=ndL_bd (need_bd n) l hx.2;have e1:nodesL (n + 1) (t :: l) = nodesT t + nodesL (n + 1) l:=by
   rw [nodesL_cons]
  rw [e1,ndL_cons] at hc;obtain ⟨h1,h2⟩:=putO_cap n t σ (nodesL (n + 1) l + k) (ndL (n + 1) l + m) (by omega) hx.1 (hc.less (by omega) (by omega));have hX1:Ext (putO (n + 1) t σ).2 σ':=(ext_items _ (ext_put (n + 1)) l _).trans hX;cases j with
  | zero=>exact ⟨_,rfl,h2,ih t σ σ' hP hx.1 (hr t (by simp)) (hc.less (by omega) (by omega)) hX1⟩
  | succ j=>exact items_rd ih hP l _ k m hm hx.2 (fun x hx=>hr x (by simp [hx])) h1 hX j (by simpa using hj)
theorem putRdStep {n:Nat} (ih:∀ m,n = m + 1→PutRd m):PutRd n:=by
 intro t σ σ' hP hf hr hc hX;unfold formedT at hf;rw [Bool.and_eq_true] at hf;obtain ⟨hk,h9,h10⟩:=okF_kind hf.1;obtain ⟨hz,_⟩:=needF_bd t hf.1;have hok:=hf.1;unfold okT at hok;rw [Bool.and_eq_true,Bool.and_eq_true] at hok;have en:nodesT t = 1 + nodesL n t.items:=by unfold nodesT;omega
 rw [need_eq,en] at hc;have hXk:Ext (kindO t.f (itemsO (putO n) t.items σ).1 (itemsO (putO n) t.items σ).2).2 σ':=hX;have hXi:Ext (itemsO (putO n) t.items σ).2 σ':=(ext_kind _ _ _).trans hXk;have hlen:=itemsO_len (putO n) t.items σ;have hit:(∀ j,(h:j < t.items.length)→∃ x,(itemsO (putO n) t.items σ).1[j]? = some x∧Wok x∧RdT σ' n x t.items[j])∧Cap (itemsO (putO n) t.items σ).2 1 (needF t.f t.items.length)∧∀ x ∈ (itemsO (putO n) t.items σ).1,Wok x:=by
  cases n with
  | zero =>
   have e:=Tm.nil0 t.items;have el:t.items.length = 0:=by rw [e];rfl
   have e2:itemsO (putO 0) t.items σ = ([],σ):=by rw [e];rfl
   refine ⟨fun j h=>by omega,?_,fun x hx=>by rw [e2] at hx;simp at hx⟩;rw [e2];have es:ndL 0 t.items = 0:=by rw [e];rfl
   exact hc.less (by omega) (by omega)
  | succ n =>
   obtain ⟨h1,h2⟩:=itemsO_cap (putO_cap n) t.items σ 1 (needF t.f t.items.length) hz hf.2 (hc.less (by omega) (by omega));exact ⟨items_rd (ih n rfl) hP t.items σ 1 _ hz hf.2 hr.2 (hc.less (by omega) (by omega)) hXi,h1,h2⟩
 obtain ⟨hit,hcap,hwok⟩:=hit;show RdT σ' (n + 1) (kindO t.f (itemsO (putO n) t.items σ).1 (itemsO (putO n) t.items σ).2).1 t
 by_cases h9':t.f.kind = 9
 ·right;have h2:=h9 h9';obtain ⟨hb1,_⟩:=bare_f hok.2.2;have hff:=list_f h9' hb1;refine ⟨hff,h2,?_⟩;have eK:kindO t.f (itemsO (putO n) t.items σ).1 (itemsO (putO n) t.items σ).2 = listO (itemsO (putO n) t.items σ).1 (itemsO (putO n) t.items σ).2:=by
   unfold kindO;rw [if_neg (by omega),if_neg (by omega),if_neg (by omega),if_pos h9']
  rw [eK] at hXk ⊢;have hnf:needF t.f t.items.length = 2 * ((t.items.length:Int) - 1):=by
   unfold needF;rw [if_neg (by omega),if_pos h9']
  refine rd_list t.items _ hlen (fun e=>by rw [e] at h2;simp at h2) hwok (fun j hj=>?_) (fun x u hx hu hd=>?_) (hcap.less (by omega) (by rw [hlen,hnf];exact Int.le_refl _)) hXk
  ·obtain ⟨x,hx,_,hd⟩:=hit j hj;exact ⟨x,hx,hd⟩
  ·cases n with
   | zero=>exact hd.elim
   | succ n =>
    rcases hd with ⟨ws,hK,_⟩ | ⟨hu9,_⟩
    ·exact not_cell hP hK
    ·exfalso;have hl:=last_ne hok.2.1 h9';apply hl;show (t.items.getLast?.map (fun t=>t.f.kind)).getD 0 = 9;rw [hu];show u.f.kind = 9;rw [hu9]
 ·left;refine ⟨(itemsO (putO n) t.items σ).1,rd_kind hlen hok.2.1 hok.2.2 hr.1 h9' hwok hcap hXk,hlen,hit⟩
theorem putRd:∀ n,PutRd n
 | 0=>putRdStep (fun m h=>by omega)
 | n + 1=>putRdStep (fun m h=>by (obtain rfl:n = m:=(by omega));exact putRd n)
theorem and_mask (b:Nat) (hb:b < 256) (r:Nat) (h1:1 ≤ r) (h7:r ≤ 7):bits .and .u8 (b:Int) (((255 / 2 ^ r:Nat):Int)) = ((b % 2 ^ (8 - r):Nat):Int):=by
 have h:∀ r:Fin 8,∀ b:Fin 256,1 ≤ r.val→bits .and .u8 (b.val:Int) (((255 / 2 ^ r.val:Nat):Int)) = ((b.val % 2 ^ (8 - r.val):Nat):Int):=by decide +kernel
 exact h ⟨r,by omega⟩ ⟨b,hb⟩ h1
theorem bitlen141 (n:Int) (h0:0 ≤ n) (h1:n ≤ 1000000) (w:World):Calls Tryz.prog 141 #[.int .i64 n] w fun e w'=>e = .returned (.int .i64 ((n + 7) / 8))∧w = w':=by
 have t1:n.tmod 8 = n % 8:=Int.tmod_eq_emod_of_nonneg h0;have t2:n.tdiv 8 = n / 8:=Int.tdiv_eq_ediv_of_nonneg h0;have w1:IntKind.i64.wrap (n / 8) = n / 8:=IntWalk.i64_in _ (by omega);have w2:IntKind.i64.wrap (n / 8 + 1) = n / 8 + 1:=IntWalk.i64_in _ (by omega);have w3:IntKind.i64.wrap (n % 8) = n % 8:=IntWalk.i64_in _ (by omega)
 by_cases h:0 < n % 8
 ·have HF:Hid (n / 8 + 1 = (n + 7) / 8):=Lib.hid (by omega);go_enter Tryz.func141,Tryz.ntmps141;go_wp2_with fail;go_ret;exact ⟨by rw [HF.out];rfl,rfl⟩
 ·have HF:Hid (n / 8 = (n + 7) / 8):=Lib.hid (by omega);go_enter Tryz.func141,Tryz.ntmps141;go_wp2_with fail;go_ret;exact ⟨by rw [HF.out];rfl,rfl⟩
theorem valid70 (s:ByteArray) (n:Int) (h0:0 ≤ n) (h1:n ≤ 1000000) (hs:(s.size:Int) = (n + 7) / 8) (hl:n % 8 = 0∨lastByte s % 2 ^ (8 - (n % 8).toNat) = 0) (w:World) :
 Calls Tryz.prog 70 #[.agg #[.string s,.int .i64 n]] w fun e w'=>e = .returned (.bool true)∧Below w.heap.size w w':=by
 have hb0:Below w.heap.size w (w.alloc (.cells #[.string s,.int .i64 n] 49)):=belowA (Below.refl _ w) _;have hx:=heap_alloc_new w (.cells #[.string s,.int .i64 n] 49);generalize hw0:w.alloc (.cells #[.string s,.int .i64 n] 49) = w0 at *;have x0:w0.cell? ⟨w.heap.size,0,none⟩ = some (.string s):=(cell_of_blk hx).trans rfl;have x1:w0.cell? ⟨w.heap.size,1,none⟩ = some (.int .i64 n):=(cell_of_blk hx).trans rfl;have x0':w0.drew.cell? ⟨w.heap.size,0,none⟩ = some (.string s):=x0;have x1':w0.drew.cell? ⟨w.heap.size,1,none⟩ = some (.int .i64 n):=x1;have HBd:=Lib.hid (belowD hb0)
 have H141:=Lib.hid (fun W=>hs ▸ bitlen141 n h0 h1 W);have q0:decide (n < 0) = false:=decide_eq_false (by omega);have q1:((s.size:Int) != (s.size:Int)) = false:=by simp
 clear hx hb0
 by_cases h8:n % 8 = 0
 ·have t1:n.tmod 8 = 0:=by rw [Int.tmod_eq_emod_of_nonneg h0];exact h8
  have w1:IntKind.u64.wrap 0 = 0:=by decide
  clear hs hl h8 h0 h1;go_enter Tryz.func70,Tryz.ntmps70;go_upto_region 1 with (fail);clear hw0
  go_region_held3 (fun W=>W.cell? ⟨w.heap.size,0,none⟩ = some (.string s)∧W.cell? ⟨w.heap.size,1,none⟩ = some (.int .i64 n)) (go_keep)
   (first
     | (go_at_call 141;refine (H141.out _).mono ?_;rintro e w' ⟨rfl,rfl⟩))
  all_goals
   go_wp2_with fail;go_ret;exact ⟨rfl,HBd.out⟩
 ·obtain ⟨m,hm⟩:∃ m,s.size = m + 1:=⟨s.size - 1,by omega⟩;have hm2:m < s.size:=by omega
  obtain ⟨r,hr⟩:∃ r:Nat,n % 8 = (r:Int):=⟨(n % 8).toNat,by omega⟩;have t1:n.tmod 8 = (r:Int):=by rw [Int.tmod_eq_emod_of_nonneg h0];exact hr
  have w1:IntKind.u64.wrap (r:Int) = r:=IntWalk.u64_in _ (by omega);have q2:((r:Int) == 0) = false:=by simp;omega
  have hlast:lastByte s = (s[m]'hm2).toNat:=last_byte s m hm;have hix:∀ w:World,(Instr.index 9 (.string s) (.int .i64 (m:Int))).run Tryz.prog w = .ok (.int .u8 ((s[m]'hm2).toNat:Int)) w:=fun w=>by
   rw [run_index_string w 9 s .i64 (m:Int) Tryz.underlying9,dif_pos ⟨by omega,by omega⟩];rfl
  have hz:(s[m]'hm2).toNat % 2 ^ (8 - r) = 0:=by
   rcases hl with h | h
   ·omega
   ·rw [hlast,hr,Int.toNat_natCast] at h;exact h
  have w2:IntKind.i64.wrap ((s.size:Int) - 1) = (m:Int):=by rw [IntWalk.i64_in _ (by omega)];omega
  have HMk:=Lib.hid (and_mask (s[m]'hm2).toNat (UInt8.toNat_lt _) r (by omega) (by omega));have HZ:=Lib.hid hz;have hm3:bits .and .u8 ((s[m]'hm2).toNat:Int) (255 / 2 ^ min r 8) = 0:=by
   have e:(255 / 2 ^ min r 8:Int) = ((255 / 2 ^ r:Nat):Int):=by
    rw [Nat.min_eq_left (by omega)]
    push_cast
    rfl
   rw [e,HMk.out,hz];rfl
  clear hs hl h8 h0 h1 hm hr hlast hz HMk HZ;generalize (s[m]'hm2).toNat = bb at *;go_enter Tryz.func70,Tryz.ntmps70;go_upto_region 1 with (fail);clear hw0
  go_region_held3 (fun W=>W.cell? ⟨w.heap.size,0,none⟩ = some (.string s)∧W.cell? ⟨w.heap.size,1,none⟩ = some (.int .i64 n)) (go_keep)
   (first
     | (go_at_call 141;refine (H141.out _).mono ?_;rintro e w' ⟨rfl,rfl⟩))
  all_goals
   go_wp2_with fail;go_ret;exact ⟨rfl,HBd.out⟩
theorem of152 (s:ByteArray) (hs:s.size ≤ 100000) (w:World):Calls Tryz.prog 152 #[.string s] w fun e w'=>e = .returned (.agg #[.string s,.int .i64 (8 * s.size)])∧Below w.heap.size w w':=by
 have hw:IntKind.i64.wrap (8 * (s.size:Int)) = 8 * s.size:=IntWalk.i64_in _ (by omega);have HB:=Lib.hid (fun o=>belowA (Below.refl _ w) o);clear hs;go_enter Tryz.func152,Tryz.ntmps152;go_wp2_with fail;refine bodyPost_ret (v:=.agg #[.string s,.int .i64 (8 * s.size)]) (by simp [results,Tryz.results152,go_sem, *]) rfl ⟨rfl,HB.out _⟩
theorem term156 (s:ByteArray) (n:Int) (h:BitsOk s n) (w:World):Calls Tryz.prog 156 #[.agg #[.string s,.int .i64 n]] w fun e w'=>e = .returned (aggV ⟨10,0,0,e0,e0,0,s,n⟩ nilV)∧Below w.heap.size w w':=by
 obtain ⟨a,b,c,d⟩:=h;have HV:=Lib.hid (fun W=>valid70 s n a (by omega) c d W);have q:decide ((16384:Int) < n) = false:=decide_eq_false (by omega);clear a b c d;have e1:=heap_alloc_new w (.cells #[.string s,.int .i64 n] 49);have e2:=heap_alloc_new (w.alloc (.cells #[.string s,.int .i64 n] 49)) (.cells zC 38);have hs1:(w.alloc (.cells #[.string s,.int .i64 n] 49)).heap.size = w.heap.size + 1:=World.size_alloc _ _;have hb:Below w.heap.size w ((w.alloc (.cells #[.string s,.int .i64 n] 49)).alloc (.cells zC 38)):=belowA (belowA (Below.refl _ w) _) _
 have e3:=(heap_alloc_old (w.alloc (.cells #[.string s,.int .i64 n] 49)) (.cells zC 38) (show w.heap.size < _ by omega)).trans e1;have hs2:((w.alloc (.cells #[.string s,.int .i64 n] 49)).alloc (.cells zC 38)).heap.size = w.heap.size + 1 + 1:=by rw [World.size_alloc,hs1]
 rw [hs1] at e2
 have HF:Hid (∀ W,Below ((w.alloc (.cells #[.string s,.int .i64 n] 49)).alloc (.cells zC 38)).heap.size ((w.alloc (.cells #[.string s,.int .i64 n] 49)).alloc (.cells zC 38)) W→W.heap[w.heap.size]? = some (.cells #[.string s,.int .i64 n] 49)∧W.heap[w.heap.size + 1]? = some (.cells zC 38)∧Below w.heap.size w W) :=
  Lib.hid (fun W hW=>⟨(hW.block _ (by omega)).trans e3,(hW.block _ (by omega)).trans e2,hb.trans (hW.mono (by omega))⟩)
 clear e1 e2 hs1 hb e3 hs2;go_enter Tryz.func156,Tryz.ntmps156;go_wp2_with fail;refine (HV.out _).mono ?_;rintro e W2 ⟨rfl,hb⟩;obtain ⟨f1,f2,f3⟩:=HF.out W2 hb;have x0:W2.cell? ⟨w.heap.size,0,none⟩ = some (.string s):=(cell_of_blk f1).trans rfl;have x1:W2.cell? ⟨w.heap.size,1,none⟩ = some (.int .i64 n):=(cell_of_blk f1).trans rfl;have HZ:=Lib.hid f2;have HB:=Lib.hid f3;clear hb f1 f2 f3
 go_wp2_with (refine wpList_store_row rfl 38 (.tmp 2) (.tmp 16) rfl (w.heap.size + 1) #[.int .i64 10,.int .i64 0,.int .i64 0,.string ⟨#[]⟩,.string ⟨#[]⟩,.int .i64 0,.slice none 0 0,.string s,.int .i64 n] rfl rfl 38 zC HZ.out i38 rfl (by simp [Value.oneCell']) ?_)
 go_wp2_with fail;refine bodyPost_ret (v:=aggV ⟨10,0,0,e0,e0,0,s,n⟩ nilV) (ret_row rfl _ rfl (cs:=[.int .i64 10,.int .i64 0,.int .i64 0,.string ⟨#[]⟩,.string ⟨#[]⟩,.int .i64 0,.slice none 0 0,.string s,.int .i64 n]) rfl (range_blk (setRow_heap _ _ _ _ _ _ HZ.out))) rfl ⟨rfl,below_setRow HB.out (by omega) _⟩
theorem name154 {w:World} {B z a b:Nat} {c:Int} {σ:St} {S:Nat→Prop} (h:HQ w B z a b c σ S) (hN:σ.N.length ≤ 500000) (v:Int) (v0:0 ≤ v) (v1:v ≤ 18446744073709551615) :
 Calls Tryz.prog 154 #[.pointer (some ⟨z,0,none⟩),.int .u64 v] w fun e w'=>e = .returned (.string (nameO σ v))∧w = w':=by
 obtain ⟨vY,vF,m,p,cc,m1,m2,h⟩:=h;have c6:w.cell? ⟨z,6,none⟩ = some (.pointer (some ⟨a,0,none⟩)):=(cell_of_blk h.ha.blk).trans rfl;have HNm:=Lib.hid (names.Name w a σ.N m p cc h.tab (aoN v) (by unfold maxLen;omega));have HA':=Lib.hid (fun W=>words.AtomOf v v0 v1 W);clear h hN v0 v1;go_enter Tryz.func154,Tryz.ntmps154;go_wp2_with fail;refine (HA'.out _).mono ?_;rintro e w' ⟨rfl,rfl⟩;go_wp2_with fail;refine HNm.out.mono ?_;rintro e w' ⟨rfl,rfl⟩;go_wp2_with fail;go_ret;exact ⟨rfl,rfl⟩
theorem num77 (v:Int) (v0:0 ≤ v) (v1:v ≤ 18446744073709551615) (w:World):Calls Tryz.prog 77 #[.int .u64 v] w fun e w'=>e = .returned (.int .i64 (soN v))∧w = w':=by
 have HS:=Lib.hid (fun W=>words.SmallOf v v0 v1 W);clear v0 v1;go_enter Tryz.func77,Tryz.ntmps77;go_wp2_with fail;refine (HS.out _).mono ?_;rintro e w' ⟨rfl,rfl⟩;go_wp2_with fail;go_ret;exact ⟨rfl,rfl⟩
theorem get112 {w:World} {b:Nat} {E:Ents} {gv tot:Int} {m1 m2:Nat} (h:Sto w b E gv tot m1 m2) (hw:WE E gv) {id:Int} {s:ByteArray} {n:Int} (he:(id,s,n) ∈ E) :
 Calls Tryz.prog 112 #[.pointer (some ⟨b,0,none⟩),.int .i64 id] w fun e w'=>e = .returned (.tuple #[.string s,.bool true])∧Below w.heap.size w w':=by
 obtain ⟨c0,c1,c2,c3⟩:=h.cells;have HM:=Lib.hid (made73 c0);obtain ⟨i,hi,he⟩:=List.getElem_of_mem he;have he':E[i]? = some (id,s,n):=by rw [List.getElem?_eq_getElem hi,he]
 have hl:(Instr.lookup 118 (.map (some m2)) (.int .i64 id) true).run Tryz.prog w = .ok (.tuple #[entV s n,.bool true]) w:=by
  have:=run_lookup_any_ok key3i Tryz.underlying118 h.ent.is id (zero129 w);rw [this];have:=find_ent hw.ids he';dsimp only at this;rw [this];rfl
 have HB:=Lib.hid (fun o=>belowA (Below.refl _ w) o);clear h hw hi he he' c2 c3;go_enter Tryz.func112,Tryz.ntmps112;go_wp2_with fail;refine HM.out.mono ?_;rintro e w1 ⟨rfl,rfl⟩;go_wp2_with fail;go_ret2
 exact ⟨rfl,HB.out _⟩
end Go.Proofs.YtpnlnbolhkcnjaaGreat.hp
