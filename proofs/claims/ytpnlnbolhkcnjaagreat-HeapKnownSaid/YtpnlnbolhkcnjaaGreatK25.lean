/- HpP,HpV,HpW. No condition beyond theirs. -/
import Derived.Test.YtpnlnbolhkcnjaaGreatK24
set_option linter.unusedSimpArgs false
set_option linter.unusedVariables false
set_option maxHeartbeats 4000000
set_option maxRecDepth 100000
namespace Go.Proofs.YtpnlnbolhkcnjaaGreat
namespace hp
open Go.RowKit mem words rec
theorem header147 (k n:Int) (w:World) :
 Calls Tryz.prog 147 #[.int .i64 k,.int .i64 n] w fun e w'=>e = .returned (.tuple #[.int .u64 (hdW k n),.bool (hdOk k n)])∧w = w':=by
 by_cases a:k < 1
 ·go_enter Tryz.func147,Tryz.ntmps147;go_wp2
  go_ret2
  exact ⟨ret2 (by unfold hdW hdOk;rw [if_neg (by simp;omega)]) (by unfold hdOk;simp;omega),rfl⟩
 by_cases b:8 < k
 ·go_enter Tryz.func147,Tryz.ntmps147;go_wp2
  go_ret2
  exact ⟨ret2 (by unfold hdW hdOk;rw [if_neg (by simp;omega)]) (by unfold hdOk;simp;omega),rfl⟩
 by_cases c:n < 0
 ·go_enter Tryz.func147,Tryz.ntmps147;go_wp2
  go_ret2
  exact ⟨ret2 (by unfold hdW hdOk;rw [if_neg (by simp;omega)]) (by unfold hdOk;simp;omega),rfl⟩
 by_cases d:65535 < n
 ·go_enter Tryz.func147,Tryz.ntmps147;go_wp2
  go_ret2
  exact ⟨ret2 (by unfold hdW hdOk;rw [if_neg (by simp;omega)]) (by unfold hdOk;simp;omega),rfl⟩
 have Hb:=Lib.hid (hd_raw k n (by simp [hdOk];omega));have Hc:Hid (bits .or .u64 (n * 16) k = 16 * n + k):=Lib.hid (by have:=Hb.out;omega);go_enter Tryz.func147,Tryz.ntmps147;go_wp2
 go_ret2
 refine ⟨ret2 (by unfold hdW hdOk;rw [if_pos (by simp;omega),Hc.out,IntKind.wrap_u64];omega) (by unfold hdOk;simp;omega),rfl⟩
theorem atom167 (i:Int) (w:World) :
 Calls Tryz.prog 167 #[.int .i64 i] w fun e w'=>e = .returned (.tuple #[.int .u64 (atomW i),.bool (idxOk i)])∧w = w':=by
 by_cases b:i < 0
 ·go_enter Tryz.func167,Tryz.ntmps167;go_wp2
  go_ret2
  exact ⟨ret2 (by unfold atomW idxOk;rw [if_neg (by simp;omega)]) (by unfold idxOk;simp;omega),rfl⟩
 ·by_cases a:i ≤ 2147483647
  ·have Hr:=Lib.hid (atom_raw i (by omega) (by omega));go_enter Tryz.func167,Tryz.ntmps167;go_wp2
   go_ret2
   exact ⟨ret2 (by unfold atomW idxOk;rw [if_pos (by simp;omega)];exact Hr.out) (by unfold idxOk;simp;omega),rfl⟩
  ·go_enter Tryz.func167,Tryz.ntmps167;go_wp2
   go_ret2
   exact ⟨ret2 (by unfold atomW idxOk;rw [if_neg (by simp;omega)]) (by unfold idxOk;simp;omega),rfl⟩
end hp
namespace hp
open Go.RowKit mem words rec tm
theorem own_fresh (w:World) (x:Int):RecOwn encW 40 1 (w.alloc (.cells #[.int .u64 x] 40)) w.heap.size (.slice (some ⟨w.heap.size,0,none⟩) 1 1) [x] :=
 ⟨rfl,.inr ⟨w.heap.size,1,_,rfl,Nat.le_refl _,heap_alloc_new w _,Nat.le_refl _,by unfold maxLen;omega,rfl,rfl⟩⟩
theorem oper_append {op:Oper} {a:Act} {w:World} {K:Act→World→Prop} {Q:Exit→Act→World→Prop} (x y:Operand) (sl:TypeId) (ho:op.op = .call { callee:=.builtin .append,args:=#[x,y],argTypes:=#[sl,sl] })
 {vs vx v':Value} {w':World} (hx:a.eval x = vs) (hy:a.eval y = vx) (hr:(Builtin.append_ #[sl,sl] op.type #[vs,vx]).run Tryz.prog w = .ok v' w') (h:K (a.put op.dst v') w'):op.wp Tryz.prog a w K Q:=by
 unfold Oper.wp execOp;simp only [ho,resolve,invoke,builtin,Sem.run_bind,Sem.run_pure,Result.andThen_ok,List.map_toArray,List.map_cons,List.map_nil,hx,hy,hr];exact h
def BoxP (B z a b:Nat) (c:Int) (vY vF:Value) (Y:List Int) (F:List Bool) (k:Int) (xs:List Int) (w:World) (e:Ending) (w':World):Prop :=
 e = .returned (.int .u64 (ptrW 2 false Y.length))∧Step B z a b c vY vF w (Y ++ hdW k xs.length :: xs) (F ++ mk2 (xs.length + 1)) w'
theorem box78 {w:World} {B z a b:Nat} {c:Int} {vY vF:Value} {Y:List Int} {F:List Bool} (h:HA w B z a b c vY vF Y F) (hYF:F.length = Y.length) (k:Int) {Bx:Nat} {vx:Value} {xs:List Int} (hx:RecAt encW 1 w Bx vx xs) (hBx:Bx ≤ w.heap.size) (hl:Y.length + 1 + xs.length ≤ 1000000) :
 Calls Tryz.prog 78 #[.pointer (some ⟨z,0,none⟩),.int .i64 k,vx] w (BoxP B z a b c vY vF Y F k xs w):=by
 obtain ⟨px,cx,ex,hxc,hxm⟩:=hx.shape;have hb1:Below w.heap.size w (w.drew.alloc (.cells #[.int .u64 (hdW k xs.length)] 40)):=belowA (belowD (Below.refl _ w)) _;have hsz:(w.drew.alloc (.cells #[.int .u64 (hdW k xs.length)] 40)).heap.size = w.heap.size + 1:=World.size_alloc _ _;obtain ⟨v',w',hr,hA⟩:=run_append_rec elW (own_fresh w.drew (hdW k xs.length)) (by rw [hsz];show w.heap.size ≤ _;omega) 22 (hx.below hb1 hBx) (encW_ok _) (by simp;omega)
 have hb2:Below w.heap.size w w':=hA.belowB hb1 (by rw [hsz];omega) (fun q hq=>by have e1:w.drew.heap.size = q:=Option.some.inj hq;rw [← e1];exact Nat.le_refl _);replace hr:(Builtin.append_ #[22,22] 22 #[.slice (some ⟨w.heap.size,0,none⟩) 1 1,vx]).run Tryz.prog (w.drew.alloc (.cells #[.int .u64 (hdW k xs.length)] 40)) = .ok v' w':=hr;have HH:=Lib.hid (header147 k xs.length);have HAd:=Lib.hid (add149 (h.below hb2) hYF (hA.own.row (encW_ok _)) (by simp) (by simp;omega));have HBx:=Lib.hid (words.Box false Y.length);have HB2:=Lib.hid hb2;have e3:hdW k xs.length :: xs = [hdW k xs.length] ++ xs:=rfl
 unfold BoxP;rw [e3];have e4:([hdW k xs.length] ++ xs).length = xs.length + 1:=by simp
 rw [← e4];clear h hYF hx hBx hl hb1 hsz hA hb2 e3 e4;subst ex;generalize [hdW k xs.length] ++ xs = ys at *;go_enter Tryz.func78,Tryz.ntmps78;go_wp2_with fail;refine (HH.out _).mono ?_;rintro e w1 ⟨rfl,rfl⟩;go_wp2_with fail
 go_region_held3 (fun W=>True) (go_keep)
  (first
    | (rw [if_pos (by rfl)];refine oper_append (.tmp 24) (.tmp 25) 22 rfl rfl rfl hr ?_)
    | (go_at_call 149;refine HAd.out.mono ?_;rintro e W3 ⟨rfl,hS⟩;have HS:=Lib.hid hS;clear hS)
    | (go_at_call 148;refine (HBx.out _).mono ?_;rintro e W4 ⟨rfl,rfl⟩))
 all_goals
  go_wp2_with fail;go_ret;exact ⟨rfl,HS.out.of_below HB2.out⟩
def Wok (v:Int):Prop:=0 ≤ v∧v ≤ 18446744073709551615∧v % 4 ≠ 0
theorem smallW_ok {n:Int} (h:smallOk n = true):Wok (smallW n):=by
 unfold smallW;rw [if_pos h];unfold Wok;omega
theorem atomW_ok {i:Int} (h0:0 ≤ i) (h1:i < 2147483648):Wok (atomW i):=by
 unfold atomW;rw [if_pos (by simp [idxOk];omega)];unfold Wok;omega
theorem ptrW_ok {tag i:Int} (ht:tag = 1∨tag = 2) (h0:0 ≤ i) (h1:i < 2147483648):Wok (ptrW tag false i):=by
 unfold ptrW;rw [if_pos (by simp [idxOk];omega)];unfold Wok;simp;omega
theorem hdW_ok {k n:Int} (h:hdOk k n = true):0 ≤ hdW k n∧hdW k n ≤ 18446744073709551615∧hdW k n % 4 = 0∧hoOk (hdW k n) = true∧hoN (hdW k n) = n∧hoK (hdW k n) = k:=by
 have e:hdW k n = 64 * n + 4 * k:=by unfold hdW;rw [if_pos h]
 simp only [hdOk,decide_eq_true_eq] at h;have e1:hoOk (hdW k n) = true:=by
  rw [e];simp only [hoOk,decide_eq_true_eq];omega
 refine ⟨by omega,by omega,by omega,e1,?_,?_⟩
 ·unfold hoN;rw [if_pos e1,e];omega
 ·unfold hoK;rw [if_pos e1,e];omega
theorem box_obj {k:Int} {xs:List Int} (h0:1 ≤ k) (h1:k ≤ 8) (hl:xs.length ≤ 65535) (hw:cl.Wds xs):cl.IsObj (hdW k xs.length :: xs)∧cl.Wds (hdW k xs.length :: xs):=by
 obtain ⟨a,b,c,d,e,f⟩:=hdW_ok (k:=k) (n:=xs.length) (by simp [hdOk];omega)
 refine ⟨⟨_,_,rfl,by simp [cl.hok,d],?_⟩,fun x hx=>?_⟩
 ·unfold cl.osz;rw [if_pos c,e];simp;omega
 ·rcases List.mem_cons.1 hx with rfl | hx
  ·exact ⟨a,b⟩
  ·exact hw x hx
theorem cell_obj {x y:Int} (hx:Wok x) (hy:Wok y):cl.IsObj [x,y]∧cl.Wds [x,y]:=by
 refine ⟨⟨_,_,rfl,by simp [cl.hok,hx.2.2],?_⟩,fun v hv=>?_⟩
 ·unfold cl.osz;rw [if_neg hx.2.2];rfl
 ·simp only [List.mem_cons,List.not_mem_nil,or_false] at hv
  rcases hv with rfl | rfl
  ·exact ⟨hx.1,hx.2.1⟩
  ·exact ⟨hy.1,hy.2.1⟩
theorem marks_len:∀ O:List (List Int),(∀ o ∈ O,0 < o.length)→(cl.marks O).length = O.flatten.length
 | [],_=>rfl
 | o :: O,h=>by
  have h1:=h o (by simp);have h2:=marks_len O (fun o ho=>h o (by simp [ho]));unfold cl.marks at *;rw [List.flatMap_cons,List.flatten_cons,List.length_append,List.length_append,h2];simp;omega
section
variable {w:World} {B z a b:Nat} {c:Int} {σ:St} {S:Nat→Prop}
theorem HX.yf {vY vF:Value} {m:Nat} {p:Option Addr} {cc m1 m2:Nat} (h:HX w B z a b c σ S vY vF m p cc m1 m2):(cl.marks σ.O).length = σ.Y.length :=
 marks_len σ.O fun o ho=>by
  obtain ⟨x,r,rfl,_⟩:=(h.pos o ho).1;simp
def RQ (B z a b:Nat) (c:Int) (S:Nat→Prop) (r:Int × St) (w:World) (e:Ending) (w':World):Prop:=e = .returned (.int .u64 r.1)∧StepQ B z a b c S w r.2 w'
theorem boxQ (h:HQ w B z a b c σ S) {k:Int} (h0:1 ≤ k) (h1:k ≤ 8) {Bx:Nat} {vx:Value} {xs:List Int} (hx:RecAt encW 1 w Bx vx xs) (hBx:Bx ≤ w.heap.size) (hl2:xs.length ≤ 65535) (hw:cl.Wds xs) (hl:σ.Y.length + 1 + xs.length ≤ 1000000) :
 Calls Tryz.prog 78 #[.pointer (some ⟨z,0,none⟩),.int .i64 k,vx] w (RQ B z a b c S (boxO k xs σ) w):=by
 obtain ⟨vY,vF,m,p,cc,m1,m2,h⟩:=h;refine (box78 h.ha h.yf k hx hBx hl).mono ?_;rintro e w' ⟨rfl,hs⟩;unfold RQ boxO;dsimp only;exact ⟨rfl,h.heap (box_obj h0 h1 hl2 hw) hs⟩
theorem cellQ (h:HQ w B z a b c σ S) {x y:Int} (hx:Wok x) (hy:Wok y) (hl:σ.Y.length + 2 ≤ 1000000) :
 Calls Tryz.prog 100 #[.pointer (some ⟨z,0,none⟩),.int .u64 x,.int .u64 y] w (RQ B z a b c S (cellO x y σ) w):=by
 obtain ⟨vY,vF,m,p,cc,m1,m2,h⟩:=h;refine (cell100 h.ha h.yf x y hl).mono ?_;rintro e w' ⟨rfl,hs⟩;unfold RQ cellO;dsimp only;exact ⟨rfl,h.heap (cell_obj hx hy) hs⟩
theorem atomQ (h:HQ w B z a b c σ S) (s:ByteArray) (hN:σ.N.length < 1000000) :
 Calls Tryz.prog 101 #[.pointer (some ⟨z,0,none⟩),.string s] w (RQ B z a b c S (atomO s σ) w):=by
 obtain ⟨vY,vF,m,p,cc,m1,m2,h⟩:=h;have c6:w.cell? ⟨z,6,none⟩ = some (.pointer (some ⟨a,0,none⟩)):=(cell_of_blk h.ha.blk).trans rfl;have HP:=Lib.hid (names.Put w a σ.N m p cc h.tab s hN);have HX:=Lib.hid h;have HAt:=Lib.hid (atom167 (names.putI σ.N s));unfold RQ atomO;clear h hN;go_enter Tryz.func101,Tryz.ntmps101;go_wp2_with fail;refine HP.out.mono ?_;rintro e w1 ⟨rfl,p',c',hT,ht,hc⟩;have HS:=Lib.hid (HX.out.names hT ht hc);clear hT ht hc;go_wp2_with fail;refine (HAt.out _).mono ?_;rintro e w2 ⟨rfl,rfl⟩;go_wp2_with fail;go_ret;exact ⟨rfl,HS.out⟩
theorem wrap_u (n:Int):IntKind.u64.wrap n = toU n:=by
 rw [IntKind.wrap_u64];rfl
theorem intQ (h:HQ w B z a b c σ S) (n:Int) (h0:-9223372036854775808 ≤ n) (h1:n ≤ 9223372036854775807) (hl:σ.Y.length + 2 ≤ 1000000) :
 Calls Tryz.prog 97 #[.pointer (some ⟨z,0,none⟩),.int .i64 n] w (RQ B z a b c S (intO n σ) w):=by
 cases hs:smallOk n with
 | true =>
  refine (integer97 w _ n h0 h1 hs).mono ?_;rintro e w' ⟨rfl,rfl⟩;unfold RQ intO;rw [if_pos hs];exact ⟨rfl,StepQ.refl h⟩
 | false =>
  have HS:=Lib.hid (fun W=>words.Small n h0 h1 W);have hb:Below w.heap.size w (w.alloc (.cells #[.int .u64 (toU n)] 40)):=belowA (Below.refl _ w) _
  have hx:RecAt encW 1 (w.alloc (.cells #[.int .u64 (toU n)] 40)) (w.heap.size + 1) (.slice (some ⟨w.heap.size,0,none⟩) 1 1) [toU n] :=
   RecAt.fresh (encW_ok [toU n]) (by decide) (heap_alloc_new w _) (Nat.le_refl 1) (by unfold maxLen;omega)
  have HBx:=Lib.hid (boxQ (h.below hb) (k:=6) (by omega) (by omega) hx (by rw [World.size_alloc];omega) (by simp) (fun x hx=>by
   rw [List.mem_singleton.1 hx]
   unfold toU
   omega) (by simpa using hl))
  have HB:=Lib.hid hb;have hu:=wrap_u n;unfold RQ intO;rw [hs];clear h hx h0 h1 hl hb;go_enter Tryz.func97,Tryz.ntmps97;go_wp2_with fail;refine (HS.out _).mono ?_;rintro e w' ⟨rfl,rfl⟩;rw [hs];go_wp2_with fail;refine HBx.out.mono ?_;rintro e w' ⟨rfl,hq⟩;have HQ:=Lib.hid (StepQ.of_below HB.out hq);clear hq;go_wp2_with fail;go_ret;exact ⟨rfl,HQ.out⟩
theorem small79 (n:Int) (h0:-9223372036854775808 ≤ n) (h1:n ≤ 9223372036854775807) (w:World) :
 Calls Tryz.prog 79 #[.int .i64 n] w fun e w'=>e = .returned (.int .u64 (smallW n))∧w = w':=by
 have HS:=Lib.hid (fun W=>words.Small n h0 h1 W);clear h0 h1;go_enter Tryz.func79,Tryz.ntmps79;go_wp2_with fail;refine (HS.out _).mono ?_;rintro e w' ⟨rfl,rfl⟩;go_wp2_with fail;go_ret;exact ⟨rfl,rfl⟩
end
end hp
end Go.Proofs.YtpnlnbolhkcnjaaGreat
