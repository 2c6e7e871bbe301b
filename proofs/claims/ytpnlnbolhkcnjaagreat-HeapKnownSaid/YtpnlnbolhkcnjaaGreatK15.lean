/- Nam,HpQ. No condition beyond theirs. -/
import Derived.Test.YtpnlnbolhkcnjaaGreatK11
import Derived.Test.YtpnlnbolhkcnjaaGreatK14
import Derived.Laws.Strings
import Derived.Laws.AppendOwnNone
set_option linter.unusedSimpArgs false
set_option linter.unusedVariables false
set_option maxHeartbeats 1000000
namespace Go.Proofs.YtpnlnbolhkcnjaaGreat
namespace names
open Go.RowKit
def okAt (k:Nat) (c:Nat):Bool:=decide (97 ≤ c∧c ≤ 122) || (decide (0 < k) && (decide (65 ≤ c∧c ≤ 90) || decide (48 ≤ c∧c ≤ 57) || decide (c = 95) || decide (c = 64)))
def vName (s:ByteArray):Bool:=decide (1 ≤ s.size∧s.size ≤ 32∧∀ k:Nat,(h:k < s.size)→okAt k (s[k]'h).toNat = true)
theorem vName_false {s:ByteArray} (k:Nat) (h:k < s.size) (hk:okAt k (s[k]'h).toNat = false):vName s = false:=by
 unfold vName;rw [decide_eq_false_iff_not];rintro ⟨_,_,h3⟩;rw [h3 k h] at hk;cases hk
theorem vName_true {s:ByteArray} (h1:1 ≤ s.size) (h2:s.size ≤ 32) (h3:∀ k:Nat,(h:k < s.size)→okAt k (s[k]'h).toNat = true):vName s = true:=by
 unfold vName;exact decide_eq_true ⟨h1,h2,h3⟩
theorem ret1b {a b:Bool} (h:a = b):Ending.returned (.bool a) = .returned (.bool b):=by rw [h]
theorem okAt_high (k c:Nat) (h:128 ≤ c):okAt k c = false:=by
 unfold okAt;simp;omega
theorem toList_len (s:ByteArray):s.toList.length = s.size:=by
 rw [ByteArray.toList_eq,Array.length_toList];rfl
theorem okAt_iff (k c:Nat):okAt k c = true↔(97 ≤ c∧c ≤ 122)∨(0 < k∧((65 ≤ c∧c ≤ 90)∨(48 ≤ c∧c ≤ 57)∨c = 95∨c = 64)):=by
 unfold okAt;simp [or_assoc]
theorem okAt_not (k c:Nat) (h:¬ ((97 ≤ c∧c ≤ 122)∨(0 < k∧((65 ≤ c∧c ≤ 90)∨(48 ≤ c∧c ≤ 57)∨c = 95∨c = 64)))):okAt k c = false:=by
 rw [Bool.eq_false_iff,ne_eq,okAt_iff];exact h
theorem classes (c:Nat) (h:c < 256):∃ lo hi:Int,∃ b1 b2:Bool,lo ≤ (c:Int)∧(c:Int) ≤ hi∧((c:Int) == 95) = b1∧((c:Int) == 64) = b2∧((c:Int) != 95) = !b1∧((c:Int) != 64) = !b2∧((lo = 0∧hi = 47∧b1 = false∧b2 = false)∨(lo = 48∧hi = 57∧b1 = false∧b2 = false)∨(lo = 58∧hi = 63∧b1 = false∧b2 = false)∨(lo = 64∧hi = 64∧b1 = false∧b2 = true)∨(lo = 65∧hi = 90∧b1 = false∧b2 = false)∨(lo = 91∧hi = 94∧b1 = false∧b2 = false)∨(lo = 95∧hi = 95∧b1 = true∧b2 = false)∨(lo = 96∧hi = 96∧b1 = false∧b2 = false)∨(lo = 97∧hi = 122∧b1 = false∧b2 = false)∨(lo = 123∧hi = 255∧b1 = false∧b2 = false)):=by
 have:c ≤ 47∨(48 ≤ c∧c ≤ 57)∨(58 ≤ c∧c ≤ 63)∨c = 64∨(65 ≤ c∧c ≤ 90)∨(91 ≤ c∧c ≤ 94)∨c = 95∨c = 96∨(97 ≤ c∧c ≤ 122)∨123 ≤ c:=by omega
 rcases this with h | h | h | h | h | h | h | h | h | h
 ·exact ⟨0,47,false,false,by omega,by omega,by simp <;> omega,by simp <;> omega,by simp <;> omega,by simp <;> omega,by simp⟩
 ·exact ⟨48,57,false,false,by omega,by omega,by simp <;> omega,by simp <;> omega,by simp <;> omega,by simp <;> omega,by simp⟩
 ·exact ⟨58,63,false,false,by omega,by omega,by simp <;> omega,by simp <;> omega,by simp <;> omega,by simp <;> omega,by simp⟩
 ·exact ⟨64,64,false,true,by omega,by omega,by simp <;> omega,by simp <;> omega,by simp <;> omega,by simp <;> omega,by simp⟩
 ·exact ⟨65,90,false,false,by omega,by omega,by simp <;> omega,by simp <;> omega,by simp <;> omega,by simp <;> omega,by simp⟩
 ·exact ⟨91,94,false,false,by omega,by omega,by simp <;> omega,by simp <;> omega,by simp <;> omega,by simp <;> omega,by simp⟩
 ·exact ⟨95,95,true,false,by omega,by omega,by simp <;> omega,by simp <;> omega,by simp <;> omega,by simp <;> omega,by simp⟩
 ·exact ⟨96,96,false,false,by omega,by omega,by simp <;> omega,by simp <;> omega,by simp <;> omega,by simp <;> omega,by simp⟩
 ·exact ⟨97,122,false,false,by omega,by omega,by simp <;> omega,by simp <;> omega,by simp <;> omega,by simp <;> omega,by simp⟩
 ·exact ⟨123,255,false,false,by omega,by omega,by simp <;> omega,by simp <;> omega,by simp <;> omega,by simp <;> omega,by simp⟩
theorem Valid (s:ByteArray) (w:World) :
 Calls Tryz.prog 65 #[.string s] w fun e w'=>e = .returned (.bool (vName s))∧Below w.heap.size w w':=by
 by_cases h1:s.size = 0
 ·have h3:s.toList.isEmpty = true:=by rw [List.isEmpty_iff,← List.length_eq_zero_iff,toList_len];exact h1
  go_enter Tryz.func65,Tryz.ntmps65;go_wp2_with fail;go_ret;exact ⟨ret1b (by unfold vName;symm;rw [decide_eq_false_iff_not];omega),Below.refl _ _⟩
 have h3:s.toList.isEmpty = false:=by rw [List.isEmpty_eq_false_iff];intro e;exact h1 (by rw [← toList_len,e];rfl)
 by_cases h2:32 < s.size
 ·go_enter Tryz.func65,Tryz.ntmps65;go_wp2_with fail;go_ret;exact ⟨ret1b (by unfold vName;symm;rw [decide_eq_false_iff_not];omega),Below.refl _ _⟩
 go_enter Tryz.func65,Tryz.ntmps65;go_wp2_with fail;go_loopw [3] (fun _ w'=>∃ pos:Nat,w' = w.iter s pos∧pos ≤ s.size∧∀ k:Nat,(h:k < s.size)→k < pos→okAt k (s[k]'h).toNat = true) (fun _ w'=>s.size - w'.iterPos w.heap.size)
 case atStart=>exact ⟨0,rfl,by omega,by omega⟩
 case round =>
  obtain ⟨pos,rfl,hpos,hall⟩:=hrel;have HALL:=Lib.hid hall;clear hall
  by_cases hp:pos < s.size
  ·by_cases ha:s[pos].toNat < 128
   ·have hnx:∀ ty,(Instr.next (.pointer (some ⟨w.heap.size,0,none⟩)) true ty).run Tryz.prog (w.iter s pos) = _:=fun ty=>run_next_ascii w s pos ty hp ha;have HP:Hid (pos = 0∨0 < pos):=Lib.hid (by omega);obtain ⟨lo,hi,b1,b2,c1,c2,c3,c4,c5,c6,hG⟩:=classes s[pos].toNat (by omega)
    rcases HP.out with hp0 | hp0
    ·subst hp0;rcases hG with ⟨rfl,rfl,rfl,rfl⟩ | ⟨rfl,rfl,rfl,rfl⟩ | ⟨rfl,rfl,rfl,rfl⟩ | ⟨rfl,rfl,rfl,rfl⟩ | ⟨rfl,rfl,rfl,rfl⟩ | ⟨rfl,rfl,rfl,rfl⟩ | ⟨rfl,rfl,rfl,rfl⟩ | ⟨rfl,rfl,rfl,rfl⟩ | ⟨rfl,rfl,rfl,rfl⟩ | ⟨rfl,rfl,rfl,rfl⟩
     all_goals go_wp2
     all_goals first
      | (go_ret
         exact ⟨ret1b (vName_false 0 hp (okAt_not _ _ (by omega))).symm,(Below.refl _ _).alloc (Nat.le_refl _) _⟩)
      | (go_roundw
         case rel=>exact ⟨0 + 1,rfl,by omega,fun k h hk=>by
          obtain rfl:k = 0:=by omega
          exact (okAt_iff _ _).2 (by omega)⟩
         case measure=>simp;omega)
      | (exfalso;simp only [Bool.not_eq_eq_eq_not,Bool.not_false,Bool.not_true,decide_eq_true_eq,decide_eq_false_iff_not] at *;omega)
    ·rcases hG with ⟨rfl,rfl,rfl,rfl⟩ | ⟨rfl,rfl,rfl,rfl⟩ | ⟨rfl,rfl,rfl,rfl⟩ | ⟨rfl,rfl,rfl,rfl⟩ | ⟨rfl,rfl,rfl,rfl⟩ | ⟨rfl,rfl,rfl,rfl⟩ | ⟨rfl,rfl,rfl,rfl⟩ | ⟨rfl,rfl,rfl,rfl⟩ | ⟨rfl,rfl,rfl,rfl⟩ | ⟨rfl,rfl,rfl,rfl⟩
     all_goals go_wp2
     all_goals first
      | (go_ret
         exact ⟨ret1b (vName_false pos hp (okAt_not _ _ (by omega))).symm,(Below.refl _ _).alloc (Nat.le_refl _) _⟩)
      | (go_roundw
         case rel =>
          refine ⟨pos + 1,rfl,by omega,fun k h hk=>?_⟩
          by_cases hkp:k < pos
          ·exact HALL.out k h hkp
          ·obtain rfl:k = pos:=by omega
           exact (okAt_iff _ _).2 (by omega)
         case measure=>simp;omega)
      | (exfalso;simp only [Bool.not_eq_eq_eq_not,Bool.not_false,Bool.not_true,decide_eq_true_eq,decide_eq_false_iff_not] at *;omega)
   ·have hnx:∀ ty,(Instr.next (.pointer (some ⟨w.heap.size,0,none⟩)) true ty).run Tryz.prog (w.iter s pos) = _:=fun ty=>run_next_any w s pos ty hp;have hr:=(decode_high s pos hp (by omega)).1;generalize hdr:(Utf8.decode s pos).1 = r at *;generalize hdw:(Utf8.decode s pos).2 = wd at *;clear hdr hdw;have q1:((r:Int) == 95) = false:=by simp;omega
    have q2:((r:Int) == 64) = false:=by simp;omega
    by_cases hp0:0 < pos
    all_goals go_wp2
    all_goals first
     | (go_ret
        exact ⟨ret1b (vName_false pos hp (okAt_high _ _ (by omega))).symm,(Below.refl _ _).alloc (Nat.le_refl _) _⟩)
     | (exfalso;simp only [Bool.not_eq_eq_eq_not,Bool.not_false,Bool.not_true,decide_eq_true_eq,decide_eq_false_iff_not] at *;omega)
  ·have hnx:∀ ty,(Instr.next (.pointer (some ⟨w.heap.size,0,none⟩)) true ty).run Tryz.prog (w.iter s pos) = _:=fun ty=>run_next_end w s pos ty hp;go_wp2
   go_ret;exact ⟨ret1b (vName_true (by omega) (by omega) (fun k h=>HALL.out k h (by omega))).symm,(Below.refl _ _).alloc (Nat.le_refl _) _⟩
end names
namespace names
open Go.RowKit mem
def kvOf (L:List ByteArray):List (ByteArray × Value):=L.zipIdx.map (fun p=>(p.1,.int .i64 (p.2:Int)))
def ix (L:List ByteArray) (s:ByteArray):Option Nat:=L.findIdx? (fun x=>decide (s = x))
def putL (L:List ByteArray) (s:ByteArray):List ByteArray:=if vName s then (match ix L s with | some _=>L | none=>L ++ [s]) else L
def putI (L:List ByteArray) (s:ByteArray):Int:=if vName s then (((ix L s).getD L.length:Nat):Int) else 0
def putE (s:ByteArray):Int:=if vName s then 0 else 2
theorem kv_idx (L:List ByteArray) (s:ByteArray) (k:Nat):((L.zipIdx k).map (fun p=>(p.1,Value.int .i64 (p.2:Int)))).findIdx? (fun p=>decide (s = p.1)) = ix L s:=by
 unfold ix
 induction L generalizing k with
 | nil=>rfl
 | cons a L ih =>
  simp only [List.zipIdx_cons,List.map_cons,List.findIdx?_cons];rw [ih (k + 1)]
theorem kv_get (L:List ByteArray) (i:Nat):(kvOf L)[i]? = (L[i]?).map (fun x=>(x,Value.int .i64 (i:Int))):=by
 unfold kvOf;rw [List.getElem?_map,List.getElem?_zipIdx];cases L[i]? <;> simp
theorem alIdx_kv (L:List ByteArray) (s:ByteArray):alIdx (kvOf L) s = ix L s:=kv_idx L s 0
theorem ix_lt {L:List ByteArray} {s:ByteArray} {i:Nat} (h:ix L s = some i):i < L.length∧L[i]? = some s:=by
 unfold ix at h;rw [List.findIdx?_eq_some_iff_getElem] at h;obtain ⟨hl,hk,_⟩:=h;have:=of_decide_eq_true hk;exact ⟨hl,by rw [List.getElem?_eq_getElem hl,← this]⟩
theorem alFind_kv (L:List ByteArray) (s:ByteArray):alFind (kvOf L) s = (ix L s).map (fun i=>Value.int .i64 (i:Int)):=by
 rw [← alFind_idx,alIdx_kv];cases h:ix L s with
 | none=>rfl
 | some i=>simp [kv_get,(ix_lt h).2]
theorem kv_snoc (L:List ByteArray) (s:ByteArray):kvOf (L ++ [s]) = kvOf L ++ [(s,.int .i64 (L.length:Int))]:=by
 unfold kvOf;rw [List.zipIdx_append];simp
structure Tab (w:World) (b:Nat) (L:List ByteArray) (m:Nat) (p:Option Addr) (c:Nat):Prop where
 blk:w.heap[b]? = some (.cells #[.map (some m),.slice p L.length c] 117 (0,0))
 map:MapIs Value.string w m (kvOf L)
 row:w.ownsRow 0 9 1 (.slice p L.length c) L.length (L.map Value.string)
 ne1:b ≠ m
 ne2:(Value.slice p L.length c).ownBlock ≠ some b
 ne3:(Value.slice p L.length c).ownBlock ≠ some m
def foot (b m:Nat) (p:Option Addr) (k:Nat):Prop:=k = b∨k = m∨∃ a,p = some a∧k = a.block
theorem own_slice {p:Option Addr} {n c:Nat} {k:Nat} (h:(Value.slice p n c).ownBlock = some k):∃ a,p = some a∧k = a.block:=by
 cases p with
 | none=>simp [Value.ownBlock] at h
 | some a=>simp [Value.ownBlock] at h;exact ⟨a,rfl,h.symm⟩
theorem Tab.lt {w:World} {b:Nat} {L:List ByteArray} {m:Nat} {p:Option Addr} {c:Nat} (h:Tab w b L m p c):∀ k,foot b m p k→k < w.heap.size:=by
 rintro k (rfl | rfl | ⟨a,rfl,rfl⟩)
 ·exact (Array.getElem?_eq_some_iff.1 h.blk).1
 ·exact h.map.lt
 ·exact (h.row.lt a.block rfl).2
theorem Tab.same {w w':World} {b:Nat} {L:List ByteArray} {m:Nat} {p:Option Addr} {c:Nat} (h:Tab w b L m p c) (hs:∀ k,foot b m p k→w'.heap[k]? = w.heap[k]?):Tab w' b L m p c where
 blk:=(hs b (.inl rfl)).trans h.blk
 map:=h.map.same (hs m (.inr (.inl rfl)))
 row:=row_same h.row (fun k hk=>hs k (.inr (.inr (own_slice hk))))
 ne1:=h.ne1
 ne2:=h.ne2
 ne3:=h.ne3
theorem Tab.touch {w w':World} {b:Nat} {L:List ByteArray} {m:Nat} {p:Option Addr} {c:Nat} (h:Tab w b L m p c) {S:Nat→Prop} (ht:TouchB S w w') (hS:∀ k,foot b m p k→¬ S k):Tab w' b L m p c :=
 h.same fun k hk=>ht.block k (h.lt k hk) (hS k hk)
theorem Tab.c0 {w:World} {b:Nat} {L:List ByteArray} {m:Nat} {p:Option Addr} {c:Nat} (h:Tab w b L m p c):w.cell? ⟨b,0,none⟩ = some (.map (some m)):=by
 simp [World.cell?,h.blk]
theorem Tab.c1 {w:World} {b:Nat} {L:List ByteArray} {m:Nat} {p:Option Addr} {c:Nat} (h:Tab w b L m p c):w.cell? ⟨b,1,none⟩ = some (.slice p L.length c):=by
 simp [World.cell?,h.blk]
theorem New (w:World):Calls Tryz.prog 14 #[] w fun e w'=>e = .returned (.pointer (some ⟨w.heap.size + 1,0,none⟩))∧Tab w' (w.heap.size + 1) [] w.heap.size none 0∧TouchB (fun _=>False) w w'∧w'.heap.size = w.heap.size + 2:=by
 have hmm:=@run_makeMap Tryz.prog;go_enter Tryz.func14,Tryz.ntmps14;go_wp2
 go_ret
 refine ⟨by simp,⟨?_,?_,?_,by omega,by simp [Value.ownBlock],by simp [Value.ownBlock]⟩,((TouchB.refl _ _).alloc _).alloc _,by simp⟩
 ·have:=(MapKept.heap_alloc (w.alloc (.map #[] 0)) (.cells #[.map (some w.heap.size),.slice none 0 0] 117)).1;simpa using this
 ·refine (MapIs.made Value.string w).same ?_;exact Below.heap_alloc _ _ _ (by simp)
 ·exact World.ownsRow_nil _ _ _ _
theorem made (b m:Nat) (w:World) (hc:w.cell? ⟨b,0,none⟩ = some (.map (some m))):Calls Tryz.prog 64 #[.pointer (some ⟨b,0,none⟩)] w fun e w'=>e = .returned (.bool true)∧w = w':=by
 have hn:=fun w=>run_neq_map_nil (P:=Tryz.prog) w 115 9 3 (some m) Tryz.underlying115;go_enter Tryz.func64,Tryz.ntmps64;go_wp2
 go_ret;exact ⟨rfl,rfl⟩
theorem zero3 (w:World):(zeroValue 3).run Tryz.prog w = .ok (.int .i64 0) w:=by kernel_rfl
theorem key9:KeyKind Tryz.prog 9 Value.string:=string_key Tryz.underlying9
theorem info9:(Tryz.prog.info? 9).map (fun i=>(i.zero,i.size,i.bytes)) = some (some (.string .empty),1,16):=by kernel_rfl
theorem add0 (g j:Nat):(⟨g,0,none⟩:Addr).add j = ⟨g,j,none⟩:=by
 unfold Addr.add;by_cases h:j = 0 <;> simp [h]
def findI (L:List ByteArray) (s:ByteArray):Int:=(((ix L s).getD 0:Nat):Int)
def findB (L:List ByteArray) (s:ByteArray):Bool:=(ix L s).isSome
theorem find_val (L:List ByteArray) (s:ByteArray):(alFind (kvOf L) s).getD (.int .i64 0) = .int .i64 (findI L s)∧(alFind (kvOf L) s).isSome = findB L s:=by
 rw [alFind_kv];unfold findI findB;cases ix L s <;> simp
theorem ret2i {k1 k2:IntKind} {x1 x2 y1 y2:Int} (h1:x1 = x2) (h2:y1 = y2) :
 Ending.returned (.tuple #[.int k1 x1,.int k2 y1]) = .returned (.tuple #[.int k1 x2,.int k2 y2]):=by rw [h1,h2]
section
variable (w:World) (b:Nat) (L:List ByteArray) (m:Nat) (p:Option Addr) (c:Nat) (hT:Tab w b L m p c)
include hT
theorem Len:Calls Tryz.prog 36 #[.pointer (some ⟨b,0,none⟩)] w fun e w'=>e = .returned (.int .i64 L.length)∧w = w':=by
 have h0:=hT.c0;have h1:=hT.c1;go_enter Tryz.func36,Tryz.ntmps36;go_wp2_with (go_at_call 64;refine (made b m _ h0).mono ?_;rintro e w' ⟨rfl,rfl⟩)
 go_ret;exact ⟨rfl,rfl⟩
def nameS (L:List ByteArray) (i:Int):ByteArray:=if 0 ≤ i then (L[i.toNat]?).getD .empty else .empty
omit hT in
end
theorem Tab.below {w w':World} {b:Nat} {L:List ByteArray} {m:Nat} {p:Option Addr} {c:Nat} (h:Tab w b L m p c) (hb:Below w.heap.size w w'):Tab w' b L m p c :=
 h.same fun k hk=>hb.block k (h.lt k hk)
theorem TouchB.ofB {S:Nat→Prop} {w w':World} (hb:Below w.heap.size w w'):TouchB S w w':=(TouchB.refl S w).ofBelow hb (Nat.le_refl _)
theorem one_new (w:World) (x:Value) (t:TypeId):∀ (j:Nat) (u:Value),[x][j]? = some u→(w.alloc (.cells #[x] t)).cell? ((⟨w.heap.size,0,none⟩:Addr).add j) = some u:=by
 intro j u hju;cases j with
 | zero=>simp at hju;subst hju;rw [add0];simp [World.cell?_alloc_new]
 | succ j=>simp at hju
theorem one_cell (s:ByteArray):∀ u ∈ [Value.string s],u.oneCell' = true:=by
 intro u hu;simp at hu;subst hu;rfl
theorem row_shape {w:World} {base:Nat} {e:TypeId} {size:Nat} {v:Value} {n:Nat} {xs:List Value} (h:w.ownsRow base e size v n xs):∃ p c,v = .slice p n c:=by
 obtain ⟨_,⟨rfl,rfl⟩ | ⟨g,cap,cur,rfl,_⟩⟩:=h
 ·exact ⟨_,_,rfl⟩
 ·exact ⟨_,_,rfl⟩
theorem block_setCell (w:World) (b:Nat) (c:Array Value) (t:TypeId) (f:Nat × Nat) (o:Nat) (v:Value) (h:w.heap[b]? = some (.cells c t f)) :
 (w.setCell ⟨b,o,none⟩ v).heap[b]? = some (.cells (c.setIfInBounds o v) t f):=by
 simp [World.setCell,Array.getElem?_modify,h]
theorem look {w:World} {b:Nat} {L:List ByteArray} {m:Nat} {p:Option Addr} {c:Nat} (hT:Tab w b L m p c) (s:ByteArray) :
 (Instr.lookup 115 (.map (some m)) (.string s) true).run Tryz.prog w = .ok (.tuple #[.int .i64 (findI L s),.bool (findB L s)]) w:=by
 have hl:=run_lookup_ok key9 Tryz.underlying115 hT.map s (zero3 w);rw [(find_val L s).1,(find_val L s).2] at hl;exact hl
theorem grown_blk {w1 w2 w3:World} {b:Nat} {L:List ByteArray} {m:Nat} {p:Option Addr} {c:Nat} {x:Obj} (hT1:Tab w1 b L m p c) (ht2:TouchB (fun i=>i = m) w1 w2) (hg:(w2.alloc x).grownBy w3 (Value.slice p L.length c).ownBlock) :
 w3.heap[b]? = some (.cells #[.map (some m),.slice p L.length c] 117 (0,0)):=by
 have hb:=hT1.lt b (.inl rfl);have h2:=(ht2.block b hb hT1.ne1).trans hT1.blk;have hb2:b < w2.heap.size:=Nat.lt_of_lt_of_le hb ht2.size;rw [hg.block b (by simp;omega) (fun e=>hT1.ne2 e.symm),Below.heap_alloc _ _ _ hb2];exact h2
theorem grown_cells {w3:World} {b:Nat} {L:List ByteArray} {m:Nat} {p:Option Addr} {c:Nat} (h:w3.heap[b]? = some (.cells #[.map (some m),.slice p L.length c] 117 (0,0))) :
 w3.cell? ⟨b,1,none⟩ = some (.slice p L.length c)∧w3.frozen? ⟨b,1,none⟩ = false:=by
 simp [World.cell?,World.frozen?,h]
theorem put_end {w w1 w2 w3:World} {b:Nat} {L:List ByteArray} {m:Nat} {p:Option Addr} {c:Nat} {s:ByteArray} {x:Obj} {v3:Value} (hT:Tab w b L m p c) (hb:Below w.heap.size w w1) (hT1:Tab w1 b L m p c) (hx:ix L s = none)
 (hm2:MapIs Value.string w2 m (alPut (kvOf L) s (.int .i64 (L.length:Int)))) (ht2:TouchB (fun i=>i = m) w1 w2) (hz:w2.heap.size = w1.heap.size)
 (hg:(w2.alloc x).grownBy w3 (Value.slice p L.length c).ownBlock) (hown:w3.ownsRow 0 9 1 v3 (L.length + 1) (L.map Value.string ++ [.string s])) (hat:v3.ownBlock = (Value.slice p L.length c).ownBlock∨v3.ownBlock = some (w2.alloc x).heap.size) :
 ∃ p' c',Tab (w3.setCell ⟨b,1,none⟩ v3) b (L ++ [s]) m p' c'∧TouchB (foot b m p) w (w3.setCell ⟨b,1,none⟩ v3)∧∀ k,foot b m p' k→foot b m p k∨w.heap.size ≤ k:=by
 obtain ⟨p3,c3,rfl⟩:=row_shape hown;have hlen:(L ++ [s]).length = L.length + 1:=by simp
 have hblk:=grown_blk hT1 ht2 hg;have hbs:=hT.lt b (.inl rfl);have hms:=hT.lt m (.inr (.inl rfl));have s1:=hb.size;have hg':∀ k,k < w.heap.size→k ≠ m→(Value.slice p L.length c).ownBlock ≠ some k→w3.heap[k]? = w.heap[k]?:=by
  intro k hk h1 h2;rw [hg.block k (by simp;omega) (fun e=>h2 e.symm),Below.heap_alloc _ _ _ (by omega),ht2.block k (by omega) h1,hb.block k hk]
 have hown':∀ k,(Value.slice p3 (L.length + 1) c3).ownBlock = some k→(Value.slice p L.length c).ownBlock = some k∨w.heap.size ≤ k:=by
  intro k hk
  rcases hat with h | h
  ·exact .inl (h ▸ hk)
  ·rw [h] at hk;simp at hk;exact .inr (by omega)
 have hne2:(Value.slice p3 (L.length + 1) c3).ownBlock ≠ some b:=fun e=>by
  rcases hown' b e with h | h
  ·exact hT.ne2 h
  ·omega
 have hne3:(Value.slice p3 (L.length + 1) c3).ownBlock ≠ some m:=fun e=>by
  rcases hown' m e with h | h
  ·exact hT.ne3 h
  ·omega
 refine ⟨p3,c3,⟨?_,?_,?_,hT.ne1,by rw [hlen];exact hne2,by rw [hlen];exact hne3⟩,?_,?_⟩
 ·rw [block_setCell _ _ _ _ _ _ _ hblk,hlen];rfl
 ·have e1:alPut (kvOf L) s (.int .i64 (L.length:Int)) = kvOf (L ++ [s]):=by
   unfold alPut;rw [alIdx_kv,hx,kv_snoc]
  rw [← e1];refine hm2.same ?_;rw [Below.heap_setCell _ _ _ _ (fun e=>hT.ne1 e.symm),hg.block m (by simp;omega) (fun e=>hT.ne3 e.symm),Below.heap_alloc _ _ _ (by omega)]
 ·rw [hlen,List.map_append];refine row_same hown (fun k hk=>?_);rw [Below.heap_setCell _ _ _ _ (fun e=>hne2 (by rw [hk,e]))]
 ·refine ⟨hg.os.trans (ht2.os.trans hb.os),hg.tape.trans (ht2.tape.trans hb.tape),hg.output.trans (ht2.output.trans hb.output),?_,?_⟩
  ·have:=hg.size;simp at this ⊢;omega
  ·intro k hk hn;rw [Below.heap_setCell _ _ _ _ (fun e=>hn (.inl e))];refine hg' k hk (fun e=>hn (.inr (.inl e))) (fun e=>hn (.inr (.inr (own_slice e))))
 ·rintro k (rfl | rfl | ⟨a,rfl,rfl⟩)
  ·exact .inl (.inl rfl)
  ·exact .inl (.inr (.inl rfl))
  ·rcases hown' a.block rfl with h | h
   ·exact .inl (.inr (.inr (own_slice h)))
   ·exact .inr h
section
variable (w:World) (b:Nat) (L:List ByteArray) (m:Nat) (p:Option Addr) (c:Nat) (hT:Tab w b L m p c)
include hT
theorem Put (s:ByteArray) (hL:L.length < 1000000):Calls Tryz.prog 16 #[.pointer (some ⟨b,0,none⟩),.string s] w fun e w'=>e = .returned (.tuple #[.int .i64 (putI L s),.int .i64 (putE s)]) ∧
 ∃ p' c',Tab w' b (putL L s) m p' c'∧TouchB (foot b m p) w w'∧∀ k,foot b m p' k→foot b m p k∨w.heap.size ≤ k:=by
 have h0:=hT.c0
 cases hv:vName s
 ·go_enter Tryz.func16,Tryz.ntmps16;go_wp2_with (first | (go_at_call 64;refine (made b m _ h0).mono ?_;rintro e w' ⟨rfl,rfl⟩) | (go_at_call 65;refine (Valid s _).mono ?_;rintro e w1 ⟨rfl,hb⟩))
  go_ret2
  refine ⟨ret2i (by unfold putI;rw [hv];rfl) (by unfold putE;rw [hv];rfl),p,c,?_,TouchB.ofB hb,fun k hk=>.inl hk⟩;unfold putL;rw [hv];exact hT.below hb
 cases hx:ix L s with
 | some i =>
  have hfi:findI L s = i:=by unfold findI;rw [hx];rfl
  have hfb:findB L s = true:=by unfold findB;rw [hx];rfl
  have Hx:=Lib.hid hx;clear hx;have Hi:=Lib.hid hfi;clear hfi;go_enter Tryz.func16,Tryz.ntmps16;go_wp2_with (first | (go_at_call 64;refine (made b m _ h0).mono ?_;rintro e w' ⟨rfl,rfl⟩) | (go_at_call 65;refine (Valid s _).mono ?_;rintro e w1 ⟨rfl,hb⟩;have hT1:=hT.below hb;have h01:=hT1.c0;have h11:=hT1.c1;have hl:=look hT1 s))
  go_ret2
  refine ⟨ret2i (by unfold putI;rw [if_pos hv,Hx.out,Hi.out];rfl) (by unfold putE;rw [hv];rfl),p,c,?_,TouchB.ofB hb,fun k hk=>.inl hk⟩;unfold putL;rw [if_pos hv,Hx.out];exact hT1
 | none =>
  have hfi:findI L s = 0:=by unfold findI;rw [hx];rfl
  have hfb:findB L s = false:=by unfold findB;rw [hx];rfl
  have Hx:=Lib.hid hx;clear hx;obtain ⟨i0,hi,hz0,hz1,hz2⟩:=info_parts info9;have hcap:0 < c∨c = 0:=by omega
  go_enter Tryz.func16,Tryz.ntmps16
  go_wp2_with (first | (go_at_call 64;refine (made b m _ h0).mono ?_;rintro e w' ⟨rfl,rfl⟩) | (go_at_call 65;refine (Valid s _).mono ?_;rintro e w1 ⟨rfl,hb⟩;have hT1:=hT.below hb;have h01:=hT1.c0;have h11:=hT1.c1;have hl:=look hT1 s) | (at_mapUpdate;refine wpList_mapUpdate_al _ rfl _ _ _ 115 rfl key9 Tryz.underlying115 m (kvOf L) hT1.map s (.int .i64 (L.length:Int)) rfl rfl rfl ?_;intro w2 hm2 ht2 hz2';have HZ:=Lib.hid hz2';clear hz2';have h02:=(ht2.cell (p:=⟨b,0,none⟩) (hT1.lt b (.inl rfl)) hT1.ne1).trans h01;have h12:=(ht2.cell (p:=⟨b,1,none⟩) (hT1.lt b (.inl rfl)) hT1.ne1).trans h11;have hr2:=row_same (w':=w2) hT1.row (fun k hk=>ht2.block k (hT1.row.lt k hk).2 (fun e=>hT1.ne3 (e ▸ hk)))) | (at_builtin;refine wpList_append_own_at _ rfl _ _ 83 rfl 0 9 i0 (.string .empty) 1 16 Tryz.underlying83 hi hz0 hz1 hz2 rfl (by decide) (.slice p L.length c) L.length (L.map Value.string) rfl (hr2.alloc _) ⟨w2.heap.size,0,none⟩ 1 1 [.string s] rfl rfl (one_new _ _ _) (one_cell s) (by unfold maxLen;omega) (by omega) (Nat.zero_le _) ?_;intro v3 w3 hown3 hg3 _ hat3;obtain ⟨p3,c3,rfl⟩:=row_shape hown3;have h13:=grown_blk hT1 ht2 hg3;obtain ⟨h13c,h13f⟩:=grown_cells h13;have H13:=Lib.hid h13;clear h13))
  go_ret2
  refine ⟨ret2i (by unfold putI;rw [if_pos hv,Hx.out];rfl) (by unfold putE;rw [hv];rfl),?_⟩;have hL':putL L s = L ++ [s]:=by unfold putL;rw [if_pos hv,Hx.out]
  rw [hL'];exact put_end hT hb hT1 Hx.out hm2 ht2 HZ.out hg3 hown3 hat3
end
end names
end Go.Proofs.YtpnlnbolhkcnjaaGreat
