/- HrF,HrG. No condition beyond theirs. -/
import Derived.Test.YtpnlnbolhkcnjaaGreatP25
set_option linter.unusedSimpArgs false
set_option linter.unusedVariables false
set_option maxHeartbeats 4000000
set_option maxRecDepth 100000
namespace Go.Proofs.YtpnlnbolhkcnjaaGreat.hp
open Go.RowKit mem words rec tm
theorem putStep {n:Nat} (ih:∀ m,n = m + 1→PutS m):PutS n:=by
 intro w B z a b c σ S v t h hI hf hr hc;obtain ⟨p,cp,rfl,hcp,hcm⟩:=itemsIn_shape hI;unfold maxLen at hcm;unfold formedT at hf;rw [Bool.and_eq_true] at hf;have hok:=hf.1;obtain ⟨hk,h9,h10⟩:=okF_kind hok;obtain ⟨hz,_⟩:=needF_bd t hok;unfold okT at hok;rw [Bool.and_eq_true,Bool.and_eq_true] at hok;have hokF:=hok.2.1;have en:nodesT t = 1 + nodesL n t.items:=by unfold nodesT;omega
 have hnl:=nodes_len n t.items;have hcn:=hc.n;rw [en] at hcn;rw [need_eq] at hc;obtain ⟨ws,σs,xs,hE,hEnd,hCap⟩:=putEl ih (B:=B) (z:=z) (a:=a) (b:=b) (c:=c) (S:=S) p t.items.length cp t.items rfl hI hf.2 hr.2 (k:=1) (m:=needF t.f t.items.length) hz (hc.less (by omega) (by omega));have e:putO (n + 1) t σ = kindO t.f (ws t.items.length) (σs t.items.length):=by
  show kindO t.f (itemsO (putO n) t.items σ).1 (itemsO (putO n) t.items σ).2 = _;rw [← hEnd]
 rw [e];have hri:=hr.1;clear e hEnd hI hf hr hc hok hz ih;generalize lastK n t.items = last at *;generalize t.items.length = len at *;generalize t.f = f at *;obtain ⟨k,i,gg,nm,fn,ar,by_,bt⟩:=f;unfold rngF at hri;unfold aggV;dsimp only at *;have hlb:len ≤ 100000:=by omega
 clear hcn hnl en;unfold okF at hokF;dsimp only at hokF
 rcases hk with rfl | rfl | rfl | rfl | rfl | rfl | rfl | rfl | rfl | rfl
 ·exact put_k1 h i gg nm fn ar by_ bt p len cp hcp hcm hlb hE hri.1 hri.2 hCap
 ·exact put_k2 h i gg nm fn ar by_ bt p len cp hcp hcm hlb hE hCap
 ·exact put_k8 h i gg nm fn ar by_ bt p len cp hcp hcm hlb hE hCap
 ·exact put_k9 h i gg nm fn ar by_ bt p len cp hcp hcm hlb hE (h9 rfl) hCap
 ·simp at hokF;exact put_k7 h i gg nm fn ar by_ bt p len cp hcp hcm hlb hE hokF hCap
 ·simp [inB] at hokF;exact put_k4 h i gg nm fn ar by_ bt p len cp hcp hcm hlb hE hokF.1.1 hokF.1.2 hokF.2.1.1 hokF.2.1.2 hokF.2.2.2.1.1 hokF.2.2.2.1.2 hokF.2.2.2.2 hCap
 ·simp [inB] at hokF;exact put_k5 h i gg nm fn ar by_ bt p len cp hcp hcm hlb hE hokF.2.2.1 hokF.2.2.2 hCap
 ·simp [inB] at hokF;exact put_k6 h i gg nm fn ar by_ bt p len cp hcp hcm hlb hE hokF.1.1 hokF.1.2 hokF.2.1.1 hokF.2.1.2 hCap
 ·simp [inB] at hokF;exact put_k3 h i gg nm fn ar by_ bt p len cp hcp hcm hlb hE hokF.1.1 hokF.1.2 hokF.2.1.1 hokF.2.1.2 hCap
 ·obtain ⟨b0,b1,b2⟩:=h10 rfl;exact put_k10 h i gg nm fn ar by_ bt p len cp hcp hcm hlb hE b0 b1 b2 hCap
theorem putAll:∀ n,PutS n
 | 0=>putStep (fun m h=>by omega)
 | n + 1=>putStep (fun m h=>by (obtain rfl:n = m:=(by omega));exact putAll n)
abbrev e0:ByteArray:=⟨#[]⟩
def Kb (σ:St):cl.Bk:=⟨σ.O,[]⟩
def nameO (σ:St) (v:Int):ByteArray:=names.nameS σ.N (aoN v)
def sgn (y:Int):Int:=if 9223372036854775808 ≤ y then y - 18446744073709551616 else y
structure BitsOk (s:ByteArray) (n:Int):Prop where
 n0:0 ≤ n
 n1:n ≤ 16384
 sz:(s.size:Int) = (n + 7) / 8
 last:n % 8 = 0∨lastByte s % 2 ^ (8 - (n % 8).toNat) = 0
def RdX (σ:St) (k:Int) (l:List Int) (f:TF) (ws:List Int):Prop :=
 (k = 1∧l = ws∧f = ⟨7,0,0,e0,e0,0,e0,0⟩) ∨
 (k = 2∧∃ a g i r,l = a :: g :: i :: r :: ws∧f = ⟨4,soN i,soN g,nameO σ a,e0,soN r,e0,0⟩) ∨
 (k = 3∧ws = []∧∃ a b r,l = [a,b,r]∧f = ⟨5,0,0,nameO σ a,nameO σ b,soN r,e0,0⟩) ∨
 (k = 4∧ws = []∧∃ a g i,l = [a,g,i]∧f = ⟨6,soN i,soN g,nameO σ a,e0,0,e0,0⟩) ∨
 (k = 5∧ws = []∧∃ a g i,l = [a,g,i]∧f = ⟨3,soN i,soN g,nameO σ a,e0,0,e0,0⟩) ∨
 (k = 6∧ws = []∧∃ y,l = [y]∧f = ⟨1,sgn y,0,e0,e0,0,e0,0⟩) ∨
 (k = 7∧ws = []∧∃ s n,l = smallW n :: packI s s.size ((n + 63) / 64).toNat∧BitsOk s n∧n ≤ 512∧f = ⟨10,0,0,e0,e0,0,s,n⟩) ∨
 (k = 8∧ws = []∧∃ id s n c,l = [smallW id,smallW 0,smallW n]∧(id,s,c) ∈ σ.E∧1 ≤ id∧id ≤ 500000∧BitsOk s n∧512 < n∧f = ⟨10,0,0,e0,e0,0,s,n⟩)
def RdK (σ:St) (v:Int) (f:TF) (ws:List Int):Prop :=
 (ws = []∧soOk v = true∧f = ⟨1,soN v,0,e0,e0,0,e0,0⟩) ∨
 (ws = []∧soOk v = false∧aoOk v = true∧f = ⟨2,0,0,nameO σ v,e0,0,e0,0⟩) ∨
 (ws = []∧v = 11∧f = ⟨8,0,0,e0,e0,0,e0,0⟩) ∨
 (∃ x,cl.Pt (Kb σ) v x∧RdX σ (cl.knd x) (cl.wds x) f ws)
def RdL {α:Type} (σ:St) (d:Int→α→Prop):Int→List α→Prop
 | _,[]=>False
 | v,[t]=>Wok v∧d v t∧¬ ∃ x,cl.Pt (Kb σ) v x∧cl.knd x = 0
 | v,t :: u :: l=>Wok v∧∃ h tl,cl.Pt (Kb σ) v [h,tl]∧cl.knd [h,tl] = 0∧Wok h∧d h t∧RdL σ d tl (u :: l)
def RdT (σ:St):(n:Nat)→Int→Tm n→Prop
 | 0,_,_=>False
 | n + 1,v,t =>
  (∃ ws,RdK σ v t.f ws∧ws.length = t.items.length∧∀ j,(h:j < t.items.length)→∃ x,ws[j]? = some x∧Wok x∧RdT σ n x t.items[j]) ∨
  (t.f = ⟨9,0,0,e0,e0,0,e0,0⟩∧2 ≤ t.items.length∧RdL σ (RdT σ n) v t.items)
structure Ext (σ σ':St):Prop where
 o:∃ r,σ'.O = σ.O ++ r
 n:∃ r,σ'.N = σ.N ++ r
 e:∀ x ∈ σ.E,∃ c,(x.1,x.2.1,c) ∈ σ'.E
theorem Ext.refl (σ:St):Ext σ σ:=⟨⟨[],by simp⟩,⟨[],by simp⟩,fun x hx=>⟨x.2.2,hx⟩⟩
theorem Ext.trans {a b c:St} (h:Ext a b) (k:Ext b c):Ext a c:=by
 obtain ⟨⟨r,hr⟩,⟨s,hs⟩,h3⟩:=h;obtain ⟨⟨r',hr'⟩,⟨s',hs'⟩,k3⟩:=k;refine ⟨⟨r ++ r',by rw [hr',hr,List.append_assoc]⟩,⟨s ++ s',by rw [hs',hs,List.append_assoc]⟩,fun x hx=>?_⟩;obtain ⟨c,hc⟩:=h3 x hx;exact k3 (x.1,x.2.1,c) hc
theorem ext_add (x:List Int) (σ:St):Ext σ (addO x σ):=⟨⟨[x],rfl⟩,⟨[],by simp [addO]⟩,fun x hx=>⟨x.2.2,hx⟩⟩
theorem ext_atom (s:ByteArray) (σ:St):Ext σ (atomO s σ).2:=by
 refine ⟨⟨[],by simp [atomO]⟩,?_,fun x hx=>⟨x.2.2,hx⟩⟩;show ∃ r,names.putL σ.N s = σ.N ++ r;unfold names.putL
 split
 ·split
  ·exact ⟨[],by simp⟩
  ·exact ⟨[s],rfl⟩
 ·exact ⟨[],by simp⟩
theorem mem_modify' {β:Type} {f:β→β}:∀ {l:List β} {j:Nat} {x:β},x ∈ l→x ∈ l.modify j f∨f x ∈ l.modify j f
 | [],_,_,h=>by simp at h
 | a :: l,0,x,h=>by
  rcases List.mem_cons.1 h with rfl | h
  ·exact .inr (by simp)
  ·exact .inl (by simp [h])
 | a :: l,j + 1,x,h=>by
  rcases List.mem_cons.1 h with rfl | h
  ·exact .inl (by simp)
  ·rcases mem_modify' (f:=f) (j:=j) h with h | h
   ·exact .inl (by simp [h])
   ·exact .inr (by simp [h])
theorem ext_blob (s:ByteArray) (σ:St):Ext σ (blobO s σ).2:=by
 unfold blobO
 split
 ·refine ⟨⟨[],by simp⟩,⟨[],by simp⟩,fun x hx=>?_⟩
  rcases mem_modify' (f:=fun e:Int × ByteArray × Int=>(e.1,e.2.1,e.2.2 + 1)) (j:=by assumption) hx with h | h
  ·exact ⟨x.2.2,h⟩
  ·exact ⟨_,h⟩
 ·exact ⟨⟨[],by simp⟩,⟨[],by simp⟩,fun x hx=>⟨x.2.2,by simp [hx]⟩⟩
theorem ext_box (k:Int) (l:List Int) (σ:St):Ext σ (boxO k l σ).2:=ext_add _ σ
theorem ext_list:∀ (ws:List Int) (σ:St),Ext σ (listO ws σ).2
 | [],σ=>Ext.refl σ
 | [x],σ=>Ext.refl σ
 | x :: y :: l,σ=>by
  rw [listO_cons2];exact (ext_list (y :: l) σ).trans (ext_add _ _)
theorem ext_kind (f:TF) (ws:List Int) (σ:St):Ext σ (kindO f ws σ).2:=by
 unfold kindO
 split
 ·unfold intO
  split
  ·exact Ext.refl σ
  ·exact ext_box _ _ _
 split
 ·exact ext_atom _ _
 split
 ·exact Ext.refl σ
 split
 ·exact ext_list _ _
 split
 ·exact ext_box _ _ _
 split
 ·exact (ext_atom _ _).trans (ext_box _ _ _)
 split
 ·exact ((ext_atom _ _).trans (ext_atom _ _)).trans (ext_box _ _ _)
 split
 ·exact (ext_atom _ _).trans (ext_box _ _ _)
 split
 ·exact (ext_atom _ _).trans (ext_box _ _ _)
 ·unfold bitsO
  split
  ·exact (ext_blob _ _).trans (ext_box _ _ _)
  ·exact ext_box _ _ _
theorem ext_items {α:Type} (p:α→St→Int × St) (hp:∀ t σ,Ext σ (p t σ).2):∀ (l:List α) (σ:St),Ext σ (itemsO p l σ).2
 | [],σ=>Ext.refl σ
 | t :: l,σ=>(hp t σ).trans (ext_items p hp l _)
theorem ext_put:∀ (n:Nat) (t:Tm n) (σ:St),Ext σ (putO n t σ).2
 | 0,t,_=>(nomatch (show Empty from t))
 | n + 1,t,σ=>(ext_items _ (ext_put n) t.items σ).trans (ext_kind _ _ _)
theorem Pt.ext {σ σ':St} (h:Ext σ σ') {v:Int} {x:List Int} (hp:cl.Pt (Kb σ) v x):cl.Pt (Kb σ') v x:=by
 obtain ⟨r,hr⟩:=h.o;obtain ⟨a,b,c⟩:=hp;refine ⟨a,?_,c⟩;cases ho:pOld v with
 | true =>
  rw [ho] at b;exact b.elim
 | false =>
  rw [ho] at b;show cl.At σ'.O _ x;rw [hr];exact cl.At.left b
theorem name_atom {σ σ':St} (s:ByteArray) (hv:names.vName s = true) (hN:σ.N.length ≤ 500000) (h:Ext (atomO s σ).2 σ'):nameO σ' (atomO s σ).1 = s∧aoOk (atomO s σ).1 = true∧soOk (atomO s σ).1 = false:=by
 obtain ⟨r,hr⟩:=h.n;obtain ⟨p0,p1⟩:=putI_bd σ.N s;have e1:(atomO s σ).1 = 16 * names.putI σ.N s + 7:=by
  show atomW (names.putI σ.N s) = _;unfold atomW;rw [if_pos (by simp [idxOk];omega)]
 have e2:aoOk (atomO s σ).1 = true:=by
  rw [e1];simp only [aoOk,decide_eq_true_eq];omega
 have e3:aoN (atomO s σ).1 = names.putI σ.N s:=by
  unfold aoN;rw [if_pos e2,e1];omega
 refine ⟨?_,e2,?_⟩
 ·unfold nameO;rw [e3];have hr':σ'.N = names.putL σ.N s ++ r:=hr;rw [hr'];unfold names.nameS names.putI names.putL;rw [if_pos hv,if_pos hv];cases hi:names.ix σ.N s with
  | some i =>
   obtain ⟨hl,hg⟩:=names.ix_lt hi;simp only [Option.getD_some];rw [if_pos (by omega),Int.toNat_natCast,List.getElem?_append_left hl,hg];rfl
  | none =>
   simp only [Option.getD_none];rw [if_pos (by omega),Int.toNat_natCast,List.getElem?_append_left (by simp),List.getElem?_append_right (Nat.le_refl _),Nat.sub_self];rfl
 ·rw [e1];simp only [soOk,decide_eq_false_iff_not];omega
theorem so_small {n:Int} (h:smallOk n = true):soOk (smallW n) = true∧soN (smallW n) = n:=by
 have e:smallW n = 16 * (n % 1152921504606846976) + 3:=by unfold smallW;rw [if_pos h]
 simp only [smallOk,decide_eq_true_eq] at h;have e1:soOk (smallW n) = true:=by
  rw [e];simp only [soOk,decide_eq_true_eq];omega
 refine ⟨e1,?_⟩;unfold soN;rw [if_pos e1,e]
 split <;> omega
theorem pt_new {σ σ':St} {tag:Int} (ht:tag = 1∨tag = 2) {x:List Int} (hY:σ.Y.length ≤ 500000) (hx:x.headD 0 % 4 = 0↔tag = 2) (h:Ext (addO x σ) σ'):cl.Pt (Kb σ') (ptrW tag false σ.Y.length) x∧soOk (ptrW tag false σ.Y.length) = false∧aoOk (ptrW tag false σ.Y.length) = false∧ptrW tag false σ.Y.length ≠ 11:=by
 have e:ptrW tag false σ.Y.length = 8 * (σ.Y.length:Int) + tag:=by
  unfold ptrW;rw [if_pos (by simp [idxOk];omega)];simp
 have hp:pOk (8 * (σ.Y.length:Int) + tag) = true:=by
  simp only [pOk,decide_eq_true_eq];omega
 have ho:pOld (8 * (σ.Y.length:Int) + tag) = false:=by
  unfold pOld;rw [hp];simp only [Bool.true_and,decide_eq_false_iff_not];omega
 have hi:pIx (8 * (σ.Y.length:Int) + tag) = σ.Y.length:=by
  unfold pIx;rw [if_pos hp];omega
 rw [e]
 refine ⟨Pt.ext h ⟨hp,?_,?_⟩,?_,?_,by omega⟩
 ·rw [ho,hi];show cl.At (σ.O ++ [x]) _ x;rw [Int.toNat_natCast];have:=cl.At.right (a:=σ.O) (b:=[x]) (i:=0) (x:=x) (cl.At.one.2 ⟨rfl,rfl⟩);rwa [Nat.add_zero] at this
 ·rw [hx];omega
 ·simp only [soOk,decide_eq_false_iff_not];omega
 ·simp only [aoOk,decide_eq_false_iff_not];omega
theorem box_head {k:Int} {xs:List Int} (h0:1 ≤ k) (h1:k ≤ 8) (hl:xs.length ≤ 65535):cl.knd (hdW k xs.length :: xs) = k∧cl.wds (hdW k xs.length :: xs) = xs∧(hdW k xs.length :: xs).headD 0 % 4 = 0:=by
 obtain ⟨_,_,c,d,e,f⟩:=hdW_ok (k:=k) (n:=xs.length) (by simp [hdOk];omega);have h4:(hdW k xs.length :: xs).headD 0 = hdW k xs.length:=rfl
 refine ⟨?_,?_,by rw [h4];exact c⟩
 ·unfold cl.knd;rw [h4,if_pos c,f]
 ·unfold cl.wds;rw [h4,if_pos c];rfl
theorem rd_box {σ σ':St} {k:Int} {xs:List Int} (h0:1 ≤ k) (h1:k ≤ 8) (hl:xs.length ≤ 65535) (hY:σ.Y.length ≤ 500000) (h:Ext (boxO k xs σ).2 σ') {f:TF} {ws:List Int} (hr:RdX σ' k xs f ws):RdK σ' (boxO k xs σ).1 f ws:=by
 obtain ⟨a,b,c⟩:=box_head h0 h1 hl;rw [boxO_1];refine .inr (.inr (.inr ⟨_,(pt_new (.inr rfl) hY ⟨fun _=>rfl,fun _=>c⟩ h).1,?_⟩));rw [a,b];exact hr
end Go.Proofs.YtpnlnbolhkcnjaaGreat.hp
