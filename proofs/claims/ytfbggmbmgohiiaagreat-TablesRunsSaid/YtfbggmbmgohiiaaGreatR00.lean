/- Run,Sh,Mem,TmA. No condition beyond theirs. -/
import Derived.OrdersHeld
import Derived.Deep.RegionHeld
import Derived.KernelRfl
import Derived.WalkKit
import Derived.Deep.MidRow
import Derived.Laws.Tables
import Derived.Maps.OwnOps
import Derived.Lib.Hide
import Derived.Test.YtfbggmbmgohiiaaGreatRows
import Derived.Maps.Own
import Derived.Deep.Draws
set_option linter.unusedSectionVars false
set_option linter.unusedSimpArgs false
set_option linter.unusedVariables false
namespace Go.Proofs.YtfbggmbmgohiiaaGreat.rec
open Go
def zQ(is:List Nat)(X:Prop):Prop:=X
theorem run_in{X:Prop}(is:List Nat)(h:zQ is X):X:=h
theorem aI{X:Prop}(h:X):zQ [] X:=h
section
variable {P:Program}{md:Region.Mode}{ops:Array Oper}{Q:Exit→Act→World→Prop}{S:World→Prop}{fuel:Nat}{listed:Array Bool}{a:Act}{w:World}{i:Nat}{is:List Nat}{oi:Oper}{v:Value}
theorem Ro(hi:ops.toList[i]?=some oi)(hb:(Region.noSelect ops&&Region.free md ops listed i&&(Region.ready md ops listed).contains i)=true)(hw:Region.wanted oi (yielded ops a.tmps)=true)
 (hQ:∀c a v w,Q (.panic c) (a.put oi.dst v) w→Q (.panic c) a w)(hS:S w)
 (h:∃v,(∀w,S w→(execOp a.eval oi).run P w=.ok (.value v) w)∧zQ is (wpAnyH P md ops Q S fuel (listed.setIfInBounds i true) (a.put oi.dst v) w)):zQ (i::is) (wpAnyH P md ops Q S (fuel+1) listed a w):=by
 obtain⟨v,hx,h⟩:=h;simp only[Bool.and_eq_true]at hb;rw[Array.getElem?_toList]at hi;exact wpAnyH_take hi hb.1.1 hb.1.2 hb.2 (fun c a w=>hQ c a v w) (.inl ⟨hw,hx⟩) hS h
theorem Ed(hi:ops.toList[i]?=some oi)(hb:(Region.noSelect ops&&Region.free md ops listed i&&(Region.ready md ops listed).contains i)=true)
 (hQ:∀c a v w,Q (.panic c) (a.put oi.dst v) w→Q (.panic c) a w)(hS:S w)(hy:YieldsIf P ops S oi v a)
 (h:zQ is (wpAnyH P md ops Q S fuel (listed.setIfInBounds i true) (a.put oi.dst v) w)):zQ (i::is) (wpAnyH P md ops Q S (fuel+1) listed a w):=by
 simp only[Bool.and_eq_true]at hb;rw[Array.getElem?_toList]at hi;exact wpAnyH_take hi hb.1.1 hb.1.2 hb.2 (fun c a w=>hQ c a v w) hy hS h
theorem Rp(hi:ops.toList[i]?=some oi)(hb:(Region.noSelect ops&&Region.free md ops listed i&&(Region.ready md ops listed).contains i)=true)
 (hQ:∀c a v w,Q (.panic c) (a.put oi.dst v) w→Q (.panic c) a w)(hS:S w)(hw:Region.wanted oi (yielded ops a.tmps)=false)
 (h:zQ is (wpAnyH P md ops Q S fuel (listed.setIfInBounds i true) (a.put oi.dst undef) w)):zQ (i::is) (wpAnyH P md ops Q S (fuel+1) listed a w) :=
 Ed hi hb hQ hS (.inr ⟨hw,rfl⟩) h
end
theorem ia{P:Program}{md:Region.Mode}{ops:Array Oper}{Q:Exit→Act→World→Prop}{S:World→Prop}{fuel:Nat}{listed:Array Bool}{a:Act}{w:World}{i:Nat}{o:Oper}{rs:List Nat}(ho:ops.toList[i]?=some o)
 (h:∀K':Act→World→Prop,Shut (∀a w,S w→(S w→wpAnyH P md ops Q S fuel (listed.setIfInBounds i true) a w)→K' a w)→if Region.wanted o (yielded ops a.tmps)=true then Oper.wp P o a w K' Q else K' (a.put o.dst undef) w)
 (hs:AllReadyH P md ops Q S fuel listed a w rs):AllReadyH P md ops Q S fuel listed a w (i::rs):=AllReadyH.cons (by rw[←Array.getElem?_toList];exact ho) h hs
theorem pA{α:Type}(l:List α)(i:Nat)(a:α):l.toArray.setIfInBounds i a=(l.set i a).toArray:=List.setIfInBounds_toArray ..
theorem pB{α:Type}(l:List α)(a b:α):(b::l).set 0 a=a::l:=rfl
theorem pC{α:Type}(l:List α)(i:Nat)(a b:α):(b::l).set (i+1) a=b::l.set i a:=rfl
end Go.Proofs.YtfbggmbmgohiiaaGreat.rec
namespace Go.Proofs.YtfbggmbmgohiiaaGreat
open Go.RowKit rec
abbrev l9(xk xi xg:Int)(xn xf:ByteArray)(xa:Int)(xu:Value)(xb:ByteArray)(xz:Int):List Value:=[.int .i64 xk,.int .i64 xi,.int .i64 xg,.string xn,.string xf,.int .i64 xa,xu,.string xb,.int .i64 xz]
abbrev a9(xk xi xg:Int)(xn xf:ByteArray)(xa:Int)(xu:Value)(xb:ByteArray)(xz:Int):Array Value:=#[.int .i64 xk,.int .i64 xi,.int .i64 xg,.string xn,.string xf,.int .i64 xa,xu,.string xb,.int .i64 xz]
abbrev QV(xk xi xg:Int)(xn xf:ByteArray)(xa:Int)(xu:Value)(xb:ByteArray)(xz:Int)(yk yi yg:Int)(yn yf:ByteArray)(ya:Int)(yu:Value)(yb:ByteArray)(yz:Int):Array Value:=#[.int .i64 xk,.int .i64 xi,.int .i64 xg,.string xn,.string xf,.int .i64 xa,xu,.string xb,.int .i64 xz,.int .i64 yk,.int .i64 yi,.int .i64 yg,.string yn,.string yf,.int .i64 ya,yu,.string yb,.int .i64 yz]
abbrev wH(xk xi xg:Int)(xn xf:ByteArray)(xa:Int)(xu:Value)(xb:ByteArray)(xz:Int)(yk yi yg:Int)(yn yf:ByteArray)(ya:Int)(yu:Value)(yb:ByteArray)(yz:Int)(h:Bool)(u:Value):List Value:=[.int .i64 xk,.int .i64 xi,.int .i64 xg,.string xn,.string xf,.int .i64 xa,xu,.string xb,.int .i64 xz,.int .i64 yk,.int .i64 yi,.int .i64 yg,.string yn,.string yf,.int .i64 ya,yu,.string yb,.int .i64 yz,.bool h,u]
abbrev Cy(xk xi xg:Int)(xn xf:ByteArray)(xa:Int)(xu:Value)(xb:ByteArray)(xz:Int)(yk yi yg:Int)(yn yf:ByteArray)(ya:Int)(yu:Value)(yb:ByteArray)(yz:Int)(h:Bool)(u:Value):Array Value:=#[.int .i64 xk,.int .i64 xi,.int .i64 xg,.string xn,.string xf,.int .i64 xa,xu,.string xb,.int .i64 xz,.int .i64 yk,.int .i64 yi,.int .i64 yg,.string yn,.string yf,.int .i64 ya,yu,.string yb,.int .i64 yz,.bool h,u]
abbrev Uj(d:Int)(xk xi xg:Int)(xn xf:ByteArray)(xa:Int)(xu:Value)(xb:ByteArray)(xz:Int)(yk yi yg:Int)(yn yf:ByteArray)(ya:Int)(yu:Value)(yb:ByteArray)(yz:Int)(vk vi vg:Int)(vn vf:ByteArray)(va:Int)(vu:Value)(vb:ByteArray)(vz:Int)(h:Bool):List Value:=[.int .i64 d,.int .i64 xk,.int .i64 xi,.int .i64 xg,.string xn,.string xf,.int .i64 xa,xu,.string xb,.int .i64 xz,.int .i64 yk,.int .i64 yi,.int .i64 yg,.string yn,.string yf,.int .i64 ya,yu,.string yb,.int .i64 yz,.int .i64 vk,.int .i64 vi,.int .i64 vg,.string vn,.string vf,.int .i64 va,vu,.string vb,.int .i64 vz,.bool h]
abbrev wI(d:Int)(xk xi xg:Int)(xn xf:ByteArray)(xa:Int)(xu:Value)(xb:ByteArray)(xz:Int)(yk yi yg:Int)(yn yf:ByteArray)(ya:Int)(yu:Value)(yb:ByteArray)(yz:Int)(vk vi vg:Int)(vn vf:ByteArray)(va:Int)(vu:Value)(vb:ByteArray)(vz:Int)(h:Bool):Array Value:=#[.int .i64 d,.int .i64 xk,.int .i64 xi,.int .i64 xg,.string xn,.string xf,.int .i64 xa,xu,.string xb,.int .i64 xz,.int .i64 yk,.int .i64 yi,.int .i64 yg,.string yn,.string yf,.int .i64 ya,yu,.string yb,.int .i64 yz,.int .i64 vk,.int .i64 vi,.int .i64 vg,.string vn,.string vf,.int .i64 va,vu,.string vb,.int .i64 vz,.bool h]
abbrev uJ:List Value:=[.int .i64 0,.int .i64 0,.int .i64 0,.string ⟨#[]⟩,.string ⟨#[]⟩,.int .i64 0,.slice none 0 0,.string ⟨#[]⟩,.int .i64 0]
abbrev dG:Array Value:=#[.int .i64 0,.int .i64 0,.int .i64 0,.string ⟨#[]⟩,.string ⟨#[]⟩,.int .i64 0,.slice none 0 0,.string ⟨#[]⟩,.int .i64 0]
abbrev cQ:Obj:=.cells #[.int .i64 0,.int .i64 0,.int .i64 0,.string ⟨#[]⟩,.string ⟨#[]⟩,.int .i64 0,.slice none 0 0,.string ⟨#[]⟩,.int .i64 0] 24
section
variable {P:Program}{md:Region.Mode}{ops:Array Oper}{Q:Exit→Act→World→Prop}{S:World→Prop}{fuel:Nat}{listed:Array Bool}{a:Act}{w:World}{i:Nat}{is:List Nat}{oi:Oper}{v:Value}{R:Prop}
theorem Qe(h:zQ is R)(hi:ops.toList[i]?=some oi:=by rfl)(hb:(Region.noSelect ops&&Region.free md ops listed i&&(Region.ready md ops listed).contains i)=true:=by kernel_rfl)(hw:Region.wanted oi (yielded ops a.tmps)=true:=by rfl)
 (hQ:∀c a v w,Q (.panic c) (a.put oi.dst v) w→Q (.panic c) a w:=by exact fun _ _ _ _ h=>h)(hS:S w:=by assumption)
 (hx:∀w,S w→(execOp a.eval oi).run P w=.ok (.value v) w:=by(intro w hSw;(try dsimp only at hSw);go_simp;(try with_reducible rfl)))
 (hR:R=wpAnyH P md ops Q S fuel (listed.setIfInBounds i true) (a.put oi.dst v) w:=by((try simp only[Act.put,pA,pB,pC]) <;> rfl)):zQ (i::is) (wpAnyH P md ops Q S (fuel+1) listed a w) :=
 Ro hi hb hw hQ hS ⟨v,hx,by rw[←hR];exact h⟩
theorem Nz:(Tryz.prog.info? 24).map (·.size)=some 9:=by kernel_rfl
theorem Qm{b o:Nat}{cs:List Value}{x:Operand}(hc:∀w,S w→w.rangeAt b o cs)(h:zQ is R)(hi:ops.toList[i]?=some oi:=by rfl)(hb:(Region.noSelect ops&&Region.free md ops listed i&&(Region.ready md ops listed).contains i)=true:=by kernel_rfl)(hw:Region.wanted oi (yielded ops a.tmps)=true:=by rfl)
 (hQ:∀c a v w,Q (.panic c) (a.put oi.dst v) w→Q (.panic c) a w:=by exact fun _ _ _ _ h=>h)(hS:S w:=by assumption)
 (ho:oi.op=.load 24 x:=by rfl)(hx:a.eval x=.pointer (some ⟨b,o,none⟩):=by rfl)(hs:(Tryz.prog.info? 24).map (·.size)=some cs.length:=by exact Nz)
 (hR:R=wpAnyH Tryz.prog md ops Q S fuel (listed.setIfInBounds i true) (a.put oi.dst (.agg cs.toArray)) w:=by((try simp only[Act.put,pA,pB,pC]) <;> rfl)):zQ (i::is) (wpAnyH Tryz.prog md ops Q S (fuel+1) listed a w) :=
 Ed hi hb hQ hS (yieldsIf_load_mid hw 24 x ho b o hx cs _ hc Tryz.underlying24 rfl hs) (by rw[←hR];exact h)
theorem Qr(hi:ops.toList[i]?=some oi)(hy:YieldsIf P ops S oi v a)(h:zQ is R)(hb:(Region.noSelect ops&&Region.free md ops listed i&&(Region.ready md ops listed).contains i)=true:=by kernel_rfl)
 (hQ:∀c a v w,Q (.panic c) (a.put oi.dst v) w→Q (.panic c) a w:=by exact fun _ _ _ _ h=>h)(hS:S w:=by assumption)
 (hR:R=wpAnyH P md ops Q S fuel (listed.setIfInBounds i true) (a.put oi.dst v) w:=by((try simp only[Act.put,pA,pB,pC]) <;> rfl)):zQ (i::is) (wpAnyH P md ops Q S (fuel+1) listed a w) :=
 Ed hi hb hQ hS hy (by rw[←hR];exact h)
theorem Qc{ty:TypeId}{b o:Nat}{x:Operand}(hl:∀w a v,w.cell? a=some v→(loadVar ty a).run P w=.ok v w)(hc:∀w,S w→w.cell? ⟨b,o,none⟩=some v)(h:zQ is R)(hi:ops.toList[i]?=some oi:=by rfl)(hb:(Region.noSelect ops&&Region.free md ops listed i&&(Region.ready md ops listed).contains i)=true:=by kernel_rfl)(hw:Region.wanted oi (yielded ops a.tmps)=true:=by rfl)
 (hQ:∀c a v w,Q (.panic c) (a.put oi.dst v) w→Q (.panic c) a w:=by exact fun _ _ _ _ h=>h)(hS:S w:=by assumption)
 (ho:oi.op=.load ty x:=by rfl)(hx:a.eval x=.pointer (some ⟨b,o,none⟩):=by rfl)
 (hR:R=wpAnyH P md ops Q S fuel (listed.setIfInBounds i true) (a.put oi.dst v) w:=by((try simp only[Act.put,pA,pB,pC]) <;> rfl)):zQ (i::is) (wpAnyH P md ops Q S (fuel+1) listed a w) :=
 Ed (v:=v) hi hb hQ hS (.inl ⟨hw,fun w hs=>by
  unfold execOp
  simp only[ho,hx,Instr.loadAt,Instr.sureAddr,Sem.run_bind,Sem.run_pure,Result.andThen_ok,hl w _ v (hc w hs)]⟩) (by rw[←hR];exact h)
theorem Qu(h:zQ is R)(hi:ops.toList[i]?=some oi:=by rfl)(hb:(Region.noSelect ops&&Region.free md ops listed i&&(Region.ready md ops listed).contains i)=true:=by kernel_rfl)
 (hQ:∀c a v w,Q (.panic c) (a.put oi.dst v) w→Q (.panic c) a w:=by exact fun _ _ _ _ h=>h)(hS:S w:=by assumption)(hw:Region.wanted oi (yielded ops a.tmps)=false:=by rfl)
 (hR:R=wpAnyH P md ops Q S fuel (listed.setIfInBounds i true) (a.put oi.dst undef) w:=by((try simp only[Act.put,pA,pB,pC]) <;> rfl)):zQ (i::is) (wpAnyH P md ops Q S (fuel+1) listed a w) :=
 Rp hi hb hQ hS hw (by rw[←hR];exact h)
theorem Qd(i:Nat){o:Oper}(h:∀K':Act→World→Prop,Shut (∀a w,S w→(S w→wpAnyH P md ops Q S fuel (listed.setIfInBounds i true) a w)→K' a w)→if Region.wanted o (yielded ops a.tmps)=true then Oper.wp P o a w K' Q else K' (a.put o.dst undef) w)
 (ho:ops.toList[i]?=some o:=by rfl)(hr:Region.ready md ops listed=[i]:=by kernel_rfl):wpAnyH P md ops Q S (fuel+1) listed a w :=
 wpAnyH_ready hr (by simp) (ia ho h AllReadyH.nil)
theorem Qk{F K':Act→World→Prop}(hK:Shut (∀a w,S w→(S w→F a w)→K' a w))(hs:S w)(h:S w→R)(hR:R=F a w:=by((try simp only[Act.put,pA,pB,pC]) <;> rfl)):K' a w:=hK.out a w hs (fun q=>by rw[←hR];exact h q)
end
section
variable {ops:Array Oper}{rest:List Oper}{o:Oper}{a:Act}{w:World}{Q:Exit→Act→World→Prop}{x y:Operand}
theorem Ql{b f:Nat}{cs:List Value}(hc:w.rangeAt b f cs)(h:wpList Tryz.prog ops Q rest (a.put o.dst (.agg cs.toArray)) w)(hgd:o.guard=none:=by rfl)(ho:o.op=.load 24 x:=by rfl)(hx:a.eval x=.pointer (some ⟨b,f,none⟩):=by rfl)(hs:(Tryz.prog.info? 24).map (·.size)=some cs.length:=by exact Nz):wpList Tryz.prog ops Q (o::rest) a w :=
 wpList_load_mid hgd 24 x ho b f hx cs _ hc Tryz.underlying24 rfl hs h
theorem Qs{g:Nat}{cells old:Array Value}(hg:w.heap[g]?=some (.cells old 24 (0,0)))(h1:cells.all (·.oneCell')=true)(h:wpList Tryz.prog ops Q rest (a.put o.dst undef) (w.setRow g cells))(hgd:o.guard=none:=by rfl)(ho:o.op=.store 24 x y:=by rfl)(hx:a.eval x=.pointer (some ⟨g,0,none⟩):=by rfl)(hy:a.eval y=.agg cells:=by rfl)(hi:(Tryz.prog.info? 24).map (·.size)=some cells.size:=by exact Nz)(hold:old.size=cells.size:=by rfl):wpList Tryz.prog ops Q (o::rest) a w :=
 wpList_store_row hgd 24 x y ho g cells hx hy 24 old hg hi hold h1 h
theorem Qg{A:Type}{l:Array A}{i:Nat}{v:A}(h:l[i]?=some v):i<l.size:=(Array.getElem?_eq_some_iff.1 h).1
theorem Qp{w w':World}{b:Nat}{v:Obj}(h:Below w.heap.size w w')(hb:w.heap[b]?=some v):w'.heap[b]?=some v:=(h.block b (Qg hb)).trans hb
end
theorem Qh{p:Prop}(h:p):RowKit.Hid p:=h
abbrev Qb(w w':World):Prop:=Below w.heap.size w w'
theorem Qz{p:Prop}(h:p:=by(repeat' (first|with_reducible assumption|with_reducible exact Below.refl _ _|with_reducible exact Nat.le_refl _|with_reducible refine Below.setCell ?_ ?_ _|with_reducible refine Below.alloc ?_ ?_ _|with_reducible refine RowKit.Below.drewN ?_ _|(simp;done)|(simp;omega)))):p:=h
end Go.Proofs.YtfbggmbmgohiiaaGreat
namespace Go.Proofs.YtfbggmbmgohiiaaGreat.mem
open Go.RowKit
structure ax(S:Nat→Prop)(w w':World):Prop where
 os:w'.os=w.os
 tape:w'.tape=w.tape
 output:w'.output=w.output
 size:w.heap.size≤w'.heap.size
 block:∀k,k<w.heap.size→¬S k→w'.heap[k]?=w.heap[k]?
theorem ax.refl(S:Nat→Prop)(w:World):ax S w w:=⟨rfl,rfl,rfl,Nat.le_refl _,fun _ _ _=>rfl⟩
theorem ax.trans{S:Nat→Prop}{a b c:World}(h:ax S a b){S':Nat→Prop}(k:ax S' b c)(hs:∀i,i<a.heap.size→S' i→S i):ax S a c :=
 ⟨k.os.trans h.os,k.tape.trans h.tape,k.output.trans h.output,Nat.le_trans h.size k.size,fun i hi hn=>(k.block i (Nat.lt_of_lt_of_le hi h.size) (fun e=>hn (hs i hi e))).trans (h.block i hi hn)⟩
theorem ax.mono{S S':Nat→Prop}{a b:World}(h:ax S a b)(hs:∀i,i<a.heap.size→S i→S' i):ax S' a b :=
 ⟨h.os,h.tape,h.output,h.size,fun i hi hn=>h.block i hi (fun e=>hn (hs i hi e))⟩
theorem ax.alloc{S:Nat→Prop}{a b:World}(h:ax S a b)(o:Obj):ax S a (b.alloc o) :=
 h.trans (S':=fun _=>False) ⟨rfl,rfl,rfl,by simp,fun k hk _=>Below.heap_alloc _ _ _ hk⟩ (fun _ _ f=>f.elim)
theorem ax.drew{S:Nat→Prop}{a b:World}(h:ax S a b):ax S a b.drew:=⟨h.os,h.tape,h.output,h.size,h.block⟩
theorem ax.drewN{S:Nat→Prop}{a b:World}(h:ax S a b)(n:Nat):ax S a (b.drewN n):=⟨h.os,h.tape,h.output,h.size,h.block⟩
theorem ax.setCell{S:Nat→Prop}{a b:World}(h:ax S a b)(p:Addr)(u:Value)(hp:p.block<a.heap.size→S p.block):ax S a (b.setCell p u) :=
 h.trans (S':=fun k=>k=p.block) ⟨rfl,rfl,rfl,by simp,fun k _ hn=>Below.heap_setCell _ _ _ _ hn⟩ (fun i hi e=>by subst e;exact hp hi)
theorem ax.grown{S:Nat→Prop}{a b c:World}(h:ax S a b){row:Option Nat}(hg:b.grownBy c row)(hr:∀k,row=some k→k<a.heap.size→S k):ax S a c :=
 h.trans (S':=fun k=>row=some k) ⟨hg.os,hg.tape,hg.output,hg.size,fun k hk hn=>hg.block k hk (fun e=>hn e.symm)⟩ (fun i hi e=>hr i e hi)
theorem ax.below{S:Nat→Prop}{a b:World}(h:ax S a b){B:Nat}(hS:∀k,S k→B≤k)(hB:B≤a.heap.size):Below B a b :=
 ⟨h.os,h.tape,h.output,h.size,fun k hk=>h.block k (by omega) (fun e=>by have:=hS k e;omega)⟩
theorem ax.bJ{S:Nat→Prop}{a b c:World}(h:ax S a b){B:Nat}(hb:Below B b c)(hB:a.heap.size≤B):ax S a c :=
 h.trans (S':=fun k=>B≤k) ⟨hb.os,hb.tape,hb.output,hb.size,fun k hk hn=>hb.block k (by omega)⟩ (fun i hi e=>absurd hi (by omega))
theorem ax.cell{S:Nat→Prop}{a b:World}(h:ax S a b){p:Addr}(hp:p.block<a.heap.size)(hn:¬S p.block):b.cell? p=a.cell? p :=
 World.cell?_of_block (w:=a) (h.block p.block hp hn)
theorem ax.frozen{S:Nat→Prop}{a b:World}(h:ax S a b){p:Addr}(hp:p.block<a.heap.size)(hn:¬S p.block):b.frozen? p=a.frozen? p :=
 World.frozen?_of_block (w:=a) (h.block p.block hp hn)
theorem oA{w w':World}{base:Nat}{e:TypeId}{size:Nat}{v:Value}{n:Nat}{xs:List Value}(h:w.ownsRow base e size v n xs)(hk:∀k,v.ownBlock=some k→w'.heap[k]?=w.heap[k]?) :
 w'.ownsRow base e size v n xs:=by
 obtain⟨hl,h|⟨g,cap,cur,rfl,hb,hh,r⟩⟩:=h
 ·exact⟨hl,.inl h⟩
 ·exact⟨hl,.inr ⟨g,cap,cur,rfl,hb,by rw[hk g rfl];exact hh,r⟩⟩
theorem Ad{w:World}{base base':Nat}{e:TypeId}{size:Nat}{v:Value}{n:Nat}{xs:List Value}(h:w.ownsRow base e size v n xs)(hb:∀k,v.ownBlock=some k→base'≤k) :
 w.ownsRow base' e size v n xs:=by
 obtain⟨hl,h|⟨g,cap,cur,rfl,hb',r⟩⟩:=h
 ·exact⟨hl,.inl h⟩
 ·exact⟨hl,.inr ⟨g,cap,cur,rfl,hb g rfl,r⟩⟩
section
variable {κ:Type}[DecidableEq κ]
def uK(Fz:κ→Value)(w:World)(m:Nat)(QW:List (κ×Value)):Prop :=
 ∃es clock,w.heap[m]?=some (.map es clock)∧es.toList.map (fun e=>(e.key,e.val))=QW.map (fun p=>(Fz p.1,p.2))
theorem uK.lt{Fz:κ→Value}{w:World}{m:Nat}{QW:List (κ×Value)}(h:uK Fz w m QW):m<w.heap.size:=by
 obtain⟨es,clock,hh,_⟩:=h;exact(Qg hh)
theorem uK.same{Fz:κ→Value}{w w':World}{m:Nat}{QW:List (κ×Value)}(h:uK Fz w m QW)(hs:w'.heap[m]?=w.heap[m]?):uK Fz w' m QW:=by
 obtain⟨es,clock,hh,r⟩:=h;exact⟨es,clock,hs.trans hh,r⟩
theorem uK.made(Fz:κ→Value)(w:World):uK Fz (w.alloc (.map #[] 0)) w.heap.size [] :=
 ⟨#[],0,(MapKept.heap_alloc w _).1,rfl⟩
structure Uk(P:Program)(kt:TypeId)(Fz:κ→Value):Prop where
 kind:∃d,P.underlying kt=some d∧(d=.string∨(∃k,d=.int k)∨d=.bool)∧∀a b,Instr.sameNow d (Fz a) (Fz b)=some (decide (a=b))
 bits:∀a,Instr.sameBits 10000 (Fz a) (Fz a)=true
theorem bytes_beq(a b:ByteArray):(a==b)=true↔a=b:=by
 obtain⟨a⟩:=a;obtain⟨b⟩:=b;show(a==b)=true↔_;simp
end
end Go.Proofs.YtfbggmbmgohiiaaGreat.mem
namespace Go.Proofs.YtfbggmbmgohiiaaGreat.tm
open Go.RowKit mem
structure TF where
 kind:Int
 int:Int
 gen:Int
 name:ByteArray
 func:ByteArray
 arity:Int
 bytes:ByteArray
 bits:Int
def Tm:Nat→Type
 | 0=>Empty
 | n+1=>TF×List (Tm n)
def Tm.f{n:Nat}(t:Tm (n+1)):TF:=Prod.fst t
def Tm.items{n:Nat}(t:Tm (n+1)):List (Tm n):=Prod.snd t
def Tm.mk{n:Nat}(f:TF)(l:List (Tm n)):Tm (n+1):=(f,l)
theorem Tm.ext{n:Nat}{a b:Tm (n+1)}(h1:a.f=b.f)(h2:a.items=b.items):a=b:=Prod.ext h1 h2
theorem Tm.js(l:List (Tm 0)):l=[]:=by
 cases l with
 | nil=>rfl
 | cons a l=>exact(nomatch (show Empty from a))
def aj(f:TF)(v:Value):Value:=.agg #[.int .i64 f.kind,.int .i64 f.int,.int .i64 f.gen,.string f.name,.string f.func,.int .i64 f.arity,v,.string f.bytes,.int .i64 f.bits]
structure Cells(w:World)(g o:Nat)(f:TF)(v:Value):Prop where
 c0:w.cell? ⟨g,o,none⟩=some (.int .i64 f.kind)
 c1:w.cell? ⟨g,o+1,none⟩=some (.int .i64 f.int)
 c2:w.cell? ⟨g,o+1+1,none⟩=some (.int .i64 f.gen)
 c3:w.cell? ⟨g,o+1+1+1,none⟩=some (.string f.name)
 c4:w.cell? ⟨g,o+1+1+1+1,none⟩=some (.string f.func)
 c5:w.cell? ⟨g,o+1+1+1+1+1,none⟩=some (.int .i64 f.arity)
 c6:w.cell? ⟨g,o+1+1+1+1+1+1,none⟩=some v
 c7:w.cell? ⟨g,o+1+1+1+1+1+1+1,none⟩=some (.string f.bytes)
 c8:w.cell? ⟨g,o+1+1+1+1+1+1+1+1,none⟩=some (.int .i64 f.bits)
theorem Cells.same{w w':World}{g o:Nat}{f:TF}{v:Value}(h:Cells w g o f v)(hs:w'.heap[g]?=w.heap[g]?):Cells w' g o f v:=by
 have e:∀x,w'.cell? ⟨g,x,none⟩=w.cell? ⟨g,x,none⟩:=fun x=>World.cell?_of_block (w:=w) (w':=w') (a:=⟨g,x,none⟩) hs;exact⟨(e _).trans h.c0,(e _).trans h.c1,(e _).trans h.c2,(e _).trans h.c3,(e _).trans h.c4,(e _).trans h.c5,(e _).trans h.c6,(e _).trans h.c7,(e _).trans h.c8⟩
def ah(w:World)(B:Nat):(n:Nat)→Value→List (Tm n)→Prop
 | 0,v,_=>∃p c,v=.slice p 0 c∧c≤maxLen
 | n+1,v,l=>∃p c,v=.slice p l.length c∧l.length≤c∧c≤maxLen∧(l≠[]→∃g o,p=some ⟨g,o,none⟩∧g<B ∧
  ∀j,(h:j<l.length)→∃u,Cells w g (o+j*9) (l[j]).f u∧ah w B n u (l[j]).items)
theorem ah.shape{w:World}{B n:Nat}{v:Value}{l:List (Tm n)}(h:ah w B n v l):∃p c,v=.slice p l.length c∧l.length≤c∧c≤maxLen:=by
 cases n with
 | zero =>
  obtain⟨p,c,rfl,hc⟩:=h;have:=Tm.js l;subst this;exact⟨p,c,rfl,Nat.zero_le _,hc⟩
 | succ n=>obtain⟨p,c,e,h1,h2,_⟩:=h;exact⟨p,c,e,h1,h2⟩
theorem ah.same{w w':World}{B:Nat}(hs:∀g,g<B→w'.heap[g]?=w.heap[g]?):∀{n:Nat} {v:Value} {l:List (Tm n)},ah w B n v l→ah w' B n v l:=by
 intro n
 induction n with
 | zero=>intro v l h;exact h
 | succ n ih =>
  intro v l h;obtain⟨p,c,e,h1,h2,h3⟩:=h;refine⟨p,c,e,h1,h2,fun hn=>?_⟩;obtain⟨g,o,e,hg,hc⟩:=h3 hn;refine⟨g,o,e,hg,fun j hj=>?_⟩;obtain⟨u,dF,eK⟩:=hc j hj;exact⟨u,dF.same (hs g hg),ih eK⟩
theorem ah.below{w w':World}{B B':Nat}{n:Nat}{v:Value}{l:List (Tm n)}(h:ah w B n v l)(hb:Below B' w w')(hB:B≤B'):ah w' B n v l :=
 h.same fun g hg=>hb.block g (by omega)
theorem ah.drewN{w:World}{B:Nat}{n:Nat}{v:Value}{l:List (Tm n)}(h:ah w B n v l)(m:Nat):ah (w.drewN m) B n v l:=ah.same (w:=w) (w':=w.drewN m) (B:=B) (fun _ _=>rfl) h
theorem ah.more{w:World}{B B':Nat}(hB:B≤B'):∀{n:Nat} {v:Value} {l:List (Tm n)},ah w B n v l→ah w B' n v l:=by
 intro n
 induction n with
 | zero=>intro v l h;exact h
 | succ n ih =>
  intro v l h;obtain⟨p,c,e,h1,h2,h3⟩:=h;refine⟨p,c,e,h1,h2,fun hn=>?_⟩;obtain⟨g,o,e,hg,hc⟩:=h3 hn;refine⟨g,o,e,by omega,fun j hj=>?_⟩;obtain⟨u,dF,eK⟩:=hc j hj;exact⟨u,dF,ih eK⟩
theorem ah.at_{w:World}{B n:Nat}{v:Value}{l:List (Tm (n+1))}(h:ah w B (n+1) v l)(hne:l≠[]):∃g o c,v=.slice (some ⟨g,o,none⟩) l.length c∧l.length≤c∧c≤maxLen∧g<B ∧
 ∀j,(h:j<l.length)→∃u,Cells w g (o+j*9) (l[j]).f u∧ah w B n u (l[j]).items:=by
 obtain⟨p,c,e,h1,h2,h3⟩:=h;obtain⟨g,o,rfl,hg,hc⟩:=h3 hne;exact⟨g,o,c,e,h1,h2,hg,hc⟩
theorem ah.jH{w:World}{B n c:Nat}{p:Option Addr}(hc:c≤maxLen):ah w B n (.slice p 0 c) ([]:List (Tm n)):=by
 cases n with
 | zero=>exact⟨p,c,rfl,hc⟩
 | succ n=>exact⟨p,c,rfl,Nat.zero_le _,hc,fun h=>absurd rfl h⟩
def GX:(n:Nat)→Tm n→Tm (n+1)
 | 0,t=>(nomatch (show Empty from t))
 | n+1,t=>Tm.mk t.f (t.items.map (GX n))
def Ae(n:Nat)(l:List (Tm n)):List (Tm (n+1)):=l.map (GX n)
theorem ah.lift{w:World}{B:Nat}:∀{n:Nat} {v:Value} {l:List (Tm n)},ah w B n v l→ah w B (n+1) v (Ae n l):=by
 intro n
 induction n with
 | zero =>
  intro v l h;obtain⟨p,c,rfl,hc⟩:=h;have:=Tm.js l;subst this;exact⟨p,c,rfl,Nat.zero_le _,hc,fun h=>absurd rfl h⟩
 | succ n ih =>
  intro v l h;obtain⟨p,c,e,h1,h2,h3⟩:=h;have hl:(Ae (n+1) l).length=l.length:=by simp[Ae]
  refine⟨p,c,by rw[hl];exact e,by rw[hl];exact h1,h2,fun hn=>?_⟩;obtain⟨g,o,e,hg,hc⟩:=h3 (fun e=>hn (by rw[e];rfl));refine⟨g,o,e,hg,fun j hj=>?_⟩;rw[hl]at hj;obtain⟨u,dF,eK⟩:=hc j hj;have he:(Ae (n+1) l)[j]'(by rw[hl];exact hj)=GX (n+1) l[j]:=by simp[Ae]
  rw[he];exact⟨u,dF,ih eK⟩
theorem ah.to{w:World}{B n m:Nat}{v:Value}{l:List (Tm n)}(h:ah w B n v l)(hm:n≤m):∃l':List (Tm m),ah w B m v l':=by
 induction m with
 | zero =>
  obtain rfl:n=0:=by omega
  exact⟨l,h⟩
 | succ m ih =>
  by_cases e:n=m+1
  ·subst e;exact⟨l,h⟩
  ·obtain⟨l',h'⟩:=ih (by omega);exact⟨_,h'.lift⟩
end Go.Proofs.YtfbggmbmgohiiaaGreat.tm
