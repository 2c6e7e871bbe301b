/- Texts of this seat, one behind the other: TbY, TcA, Skip, TcB, TcC, TnR, TcU. No condition beyond theirs. -/
import Derived.Test.YtfbggmbmgohiiaaGreatM25
import Derived.Test.YtfbggmbmgohiiaaGreatM29
import Derived.OrdersHeld
import Derived.KernelRfl
import Derived.Test.YtfbggmbmgohiiaaGreatM30
import Derived.Test.YtfbggmbmgohiiaaGreatM07
set_option linter.unusedSimpArgs false
set_option linter.unusedVariables false
set_option maxHeartbeats 4000000
set_option maxRecDepth 100000
namespace Go.Proofs.YtfbggmbmgohiiaaGreat.tb
open Go.RowKit mem rec tm names
section
variable {N : Nat} {w w' : World} {B : Nat} {F : Nat → Prop} {s : TbSt N}
def KeyR (l : List (TabE N)) (r k : Tm (N + 1)) (po : Option Addr) (er : Int) : Prop := (validT k = false ∧ po = none ∧ er = 2) ∨ (validT k = true ∧ TabR l r po er)
theorem keyed55 (h : TbAt w B F s) (hlen : s.tabs.length ≤ 1000) {r k : Tm (N + 1)} {ur uk : Value} {B2 : Nat} (hB : B2 ≤ w.heap.size) (hI : ItemsAt w B2 N ur r.items) (hJ : ItemsAt w B2 N uk k.items) (hn : 300 * (nodesT k : Int) ≤ 1000000000000) {po : Option Addr} {er : Int} (hR : KeyR s.tabs r k po er) :
    Calls Tryz.prog 55 #[.pointer (some ⟨s.z, 0, none⟩), aggV r.f ur, aggV k.f uk] w fun e w' => e = .returned (.tuple #[.pointer po, .int .i64 er]) ∧ Below w.heap.size w w' := by
  obtain ⟨hb0, hc1, hc2⟩ := two_boxes w (cells9 r.f ur) (cells9 k.f uk)
  have HTb := Lib.hid (fun (W : World) (hW : Below w.heap.size w W) hR => table49 (h.below hW) hlen (Nat.le_trans hB hW.size) (hI.below hW hB) (po := po) (er := er) hR)
  have HV := Lib.hid (fun (W : World) (hW : Below w.heap.size w W) => ValidTm (ofAll N) W B2 uk k (Nat.le_trans hB hW.size) (hJ.below hW hB) hn)
  have HO := Lib.hid (fun (W : World) (hW : Below w.heap.size w W) => two_cells (h.below hW).obj)
  obtain ⟨pl, cl, hv, _, _⟩ := h.l.shape
  obtain ⟨pr, cr, er1, _, _⟩ := hI.shape
  obtain ⟨pk, ck, ek, _, _⟩ := hJ.shape
  rw [hv] at HO
  unfold KeyR at hR
  generalize validT k = vk at *
  generalize s.z = z at *
  rw [er1] at HTb hb0 hc1 hc2 ⊢
  rw [ek] at HV hb0 hc1 hc2 ⊢
  generalize r.items.length = nr at *
  generalize k.items.length = nk at *
  have HR := Lib.hid hR
  clear h hB hI hJ hn hR hv er1 ek
  generalize r.f = fr at *
  generalize k.f = fk at *
  obtain ⟨rk, ri, rg, rn, rf, ra, rb, rs⟩ := fr
  obtain ⟨kk, ki, kg, kn, kf, ka, kb, ks⟩ := fk
  have HZ1 := Lib.hid hc1
  have HZ2 := Lib.hid hc2
  unfold aggV at *
  unfold BPost at HV
  unfold cells9 at hb0 HZ1 HZ2
  dsimp only at HTb HV hb0 HZ1 HZ2 ⊢
  have HB0 := Lib.hid hb0
  have hl1 := (Array.getElem?_eq_some_iff.1 HZ1.out).1
  clear hc1 hc2 hb0
  rcases HR.out with ⟨rfl, rfl, rfl⟩ | ⟨rfl, hT⟩
  · clear HTb HR
    go_enter Tryz.func55, Tryz.ntmps55
    go_upto_region 1 with (fail)
    generalize ((w.alloc (.cells #[.int .i64 rk, .int .i64 ri, .int .i64 rg, .string rn, .string rf, .int .i64 ra, .slice pr nr cr, .string rb, .int .i64 rs] 24)).alloc (.cells #[.int .i64 kk, .int .i64 ki, .int .i64 kg, .string kn, .string kf, .int .i64 ka, .slice pk nk ck, .string kb, .int .i64 ks] 24)) = W1 at *
    obtain ⟨o0, o1, of⟩ := HO.out _ HB0.out
    obtain ⟨y0, y1, y2, y3, y4, y5, y6, y7, y8, yf⟩ := nine_of (f := ⟨kk, ki, kg, kn, kf, ka, kb, ks⟩) (v := .slice pk nk ck) HZ2.out
    dsimp only at y0 y1 y2 y3 y4 y5 y6 y7 y8
    go_wp2_with fail
    refine (HV.out _ HB0.out).mono ?_
    rintro e w2 ⟨rfl, hb2⟩
    have HB2 := Lib.hid (HB0.out.trans (hb2.mono HB0.out.size))
    clear hb2 y0 y1 y2 y3 y4 y5 y6 y7 y8 yf
    go_wp2_with fail
    go_ret2
    exact ⟨rfl, HB2.out⟩
  · have HT := Lib.hid (fun W hW => HTb.out W hW hT)
    clear HTb HR hT
    go_enter Tryz.func55, Tryz.ntmps55
    go_upto_region 1 with (fail)
    generalize ((w.alloc (.cells #[.int .i64 rk, .int .i64 ri, .int .i64 rg, .string rn, .string rf, .int .i64 ra, .slice pr nr cr, .string rb, .int .i64 rs] 24)).alloc (.cells #[.int .i64 kk, .int .i64 ki, .int .i64 kg, .string kn, .string kf, .int .i64 ka, .slice pk nk ck, .string kb, .int .i64 ks] 24)) = W1 at *
    obtain ⟨o0, o1, of⟩ := HO.out _ HB0.out
    obtain ⟨y0, y1, y2, y3, y4, y5, y6, y7, y8, yf⟩ := nine_of (f := ⟨kk, ki, kg, kn, kf, ka, kb, ks⟩) (v := .slice pk nk ck) HZ2.out
    dsimp only at y0 y1 y2 y3 y4 y5 y6 y7 y8
    go_wp2_with fail
    refine (HV.out _ HB0.out).mono ?_
    rintro e w2 ⟨rfl, hb2⟩
    have HB2 := Lib.hid (HB0.out.trans (hb2.mono HB0.out.size))
    obtain ⟨x0, x1, x2, x3, x4, x5, x6, x7, x8, xf⟩ := nine_of (f := ⟨rk, ri, rg, rn, rf, ra, rb, rs⟩) (v := .slice pr nr cr) ((hb2.block _ hl1).trans HZ1.out)
    dsimp only at x0 x1 x2 x3 x4 x5 x6 x7 x8
    clear hb2 y0 y1 y2 y3 y4 y5 y6 y7 y8 yf
    go_wp2_with fail
    refine (HT.out _ HB2.out).mono ?_
    rintro e w3 ⟨rfl, hb3⟩
    have HB3 := Lib.hid (HB2.out.trans (hb3.mono HB2.out.size))
    clear hb3 x0 x1 x2 x3 x4 x5 x6 x7 x8 xf
    go_wp2_with fail
    go_ret2
    exact ⟨rfl, HB3.out⟩
end
section
variable {N : Nat} {w w' : World} {B : Nat} {F F' : Nat → Prop} {s : TbSt N}
theorem F_ty (h : TbAt w B F s) {g : Nat} (hg : F g) : tyOf w g = some 24 := by
  obtain ⟨cur, M, h1, _⟩ := h.ty g hg
  exact tyOf_of h1
theorem ty_ne {k k' : Nat} {a b : TypeId} (h1 : tyOf w k = some a) (h2 : tyOf w k' = some b) (hne : a ≠ b) : k ≠ k' := fun e => by
  rw [e, h2] at h1
  exact hne (Option.some.inj h1).symm
theorem TbAt.upd (h : TbAt w B F s) {i : Nat} {t t' : TabE N} (hi : s.tabs[i]? = some t) (hT : TouchB (fun k => k = t.b ∨ t.vr.ownBlock = some k) w w') (hb : t'.b = t.b) (h' : TabAt w' B F' t') (hv : ∀ k, t'.vr.ownBlock = some k → t.vr.ownBlock = some k ∨ w.heap.size ≤ k)
    (hF : ∀ g, F g → F' g) (hty : Typed w' F') (hfl : ∀ g, F' g → g < w'.heap.size) : TbAt w' B F' { s with tabs := s.tabs.set i t' } := by
  have hti := h.tabs t (List.mem_of_getElem? hi)
  have hsame : ∀ k, k < w.heap.size → k ≠ t.b → t.vr.ownBlock ≠ some k → w'.heap[k]? = w.heap[k]? := fun k hk h1 h2 => hT.block k hk (fun e => by rcases e with e | e; exact h1 e; exact h2 e)
  have htb := tyOf_of hti.blk
  have hvr : ∀ k, t.vr.ownBlock = some k → tyOf w k = some 108 := fun k hk => ownTy hti.rows hk
  have hSty : ∀ k a, k < w.heap.size → tyOf w k = some a → a ≠ 98 → a ≠ 108 → w'.heap[k]? = w.heap[k]? := fun k a hk ha h1 h2 => hsame k hk (ty_ne ha htb h1) (fun e => ty_ne ha (hvr k e) h2 rfl)
  have hFs : ∀ g, F g → w'.heap[g]? = w.heap[g]? := fun g hg => hSty g 24 (h.fl g hg) (F_ty h hg) (by decide) (by decide)
  have hlt : i < s.tabs.length := (List.getElem?_eq_some_iff.1 hi).1
  have hset : ∀ j u, (s.tabs.set i t')[j]? = some u → (j = i ∧ u = t') ∨ (j ≠ i ∧ s.tabs[j]? = some u) := fun j u hj => by
    by_cases e : i = j
    · subst e
      rw [List.getElem?_set_self hlt] at hj
      exact .inl ⟨rfl, (Option.some.inj hj).symm⟩
    · rw [List.getElem?_set_ne e] at hj
      exact .inr ⟨fun e' => e e'.symm, hj⟩
  have hbs : (s.tabs.set i t').map (·.b) = s.tabs.map (·.b) := by
    refine List.ext_getElem? fun j => ?_
    rw [List.getElem?_map, List.getElem?_map, List.getElem?_set]
    by_cases e : i = j
    · subst e; rw [if_pos rfl, if_pos hlt, hi]; simp [hb]
    · rw [if_neg e]
  refine ⟨(hSty _ 74 h.zlt (tyOf_of h.obj) (by decide) (by decide)).trans h.obj, ?_, fun u hu => ?_, by rw [hbs]; exact h.nd, fun j k tj tk hj hk hne q hq => ?_, h.low, hty, hfl⟩
  · show RecOwn ptrL 89 1 w' B s.vl ((s.tabs.set i t').map (·.b))
    rw [hbs]
    exact h.l.same (fun k hk => hSty k 89 (h.l.lt hk).2 (ownTy h.l hk) (by decide) (by decide))
  · obtain ⟨j, hj⟩ := List.mem_iff_getElem?.1 hu
    rcases hset j u hj with ⟨_, rfl⟩ | ⟨hne, hj⟩
    · exact h'
    · have hu := h.tabs u (List.mem_of_getElem? hj)
      have hne2 : u.b ≠ t.b := fun e => by
        have h1 : (s.tabs.map (·.b))[j]? = some t.b := by rw [List.getElem?_map, hj, ← e]; rfl
        have h2 : (s.tabs.map (·.b))[i]? = some t.b := by rw [List.getElem?_map, hi]; rfl
        have hjl : j < (s.tabs.map (·.b)).length := (List.getElem?_eq_some_iff.1 h1).1
        exact hne ((List.getElem?_inj hjl h.nd).1 (h1.trans h2.symm))
      refine hu.same (hsame _ hu.lt hne2 (fun e => ty_ne (tyOf_of hu.blk) (hvr _ e) (by decide) rfl)) (fun q hq => hsame q (hu.rows.lt hq).2 (ty_ne (ownTy hu.rows hq) htb (by decide)) (h.rnd j i u t hj hi hne q hq)) hFs hF
  · rcases hset j tj hj with ⟨rfl, rfl⟩ | ⟨hj1, hj2⟩
    · rcases hset k tk hk with ⟨rfl, rfl⟩ | ⟨hk1, hk2⟩
      · exact absurd rfl hne
      · rcases hv q hq with h1 | h1
        · exact h.rnd j k t tk hi hk2 hne q h1
        · intro e
          have := ((h.tabs tk (List.mem_of_getElem? hk2)).rows.lt e).2
          omega
    · rcases hset k tk hk with ⟨rfl, rfl⟩ | ⟨hk1, hk2⟩
      · intro e
        rcases hv q e with h1 | h1
        · exact h.rnd j k tj t hj2 hi hne q hq h1
        · have := ((h.tabs tj (List.mem_of_getElem? hj2)).rows.lt hq).2
          omega
      · exact h.rnd j k tj tk hj2 hk2 hne q hq
end
end Go.Proofs.YtfbggmbmgohiiaaGreat.tb
namespace Go.Proofs.YtfbggmbmgohiiaaGreat.rec
open Go
end Go.Proofs.YtfbggmbmgohiiaaGreat.rec
namespace Go.Proofs.YtfbggmbmgohiiaaGreat.tb
open Go.RowKit mem rec tm names
theorem put_seg {α : Type} {A P X0 X R : List α} {n p : Nat} (h : A.take n = P ++ X0 ++ R) (hp : P.length = p) (hX : X0.length = X.length) : (put A p X).take n = P ++ X ++ R := by
  have hl : P.length + X0.length + R.length = min n A.length := by rw [← List.length_take, h]; simp only [List.length_append]
  have e : A = P ++ X0 ++ (R ++ A.drop n) := by rw [← List.append_assoc, ← h, List.take_append_drop]
  by_cases hn : n ≤ A.length
  · rw [Nat.min_eq_left hn] at hl
    unfold put
    generalize A.drop n = D at e
    subst e
    rw [List.append_assoc P X0, List.take_left' hp, ← List.append_assoc, List.drop_left' (by rw [List.length_append]; omega), ← List.append_assoc]
    exact List.take_left' (by simp only [List.length_append]; omega)
  · have hd : A.drop n = [] := List.drop_of_length_le (by omega)
    have hA : A.length = P.length + X0.length + R.length := by rw [e, hd]; simp only [List.length_append, List.length_nil]; omega
    unfold put
    generalize A.drop n = D at e hd
    subst hd
    rw [List.append_nil] at e
    subst e
    rw [List.append_assoc P X0, List.take_left' hp, ← List.append_assoc, List.drop_left' (by rw [List.length_append]; omega)]
    exact List.take_of_length_le (by simp only [List.length_append] at *; omega)
structure NewI (w0 w : World) (F : Nat → Prop) (n : Nat) (u : Value) (l : List (Tm n)) : Prop where
  items : ItemsIn w F n u l
  typed : Typed w F
  inr : ∀ g, F g → w0.heap.size ≤ g ∧ g < w.heap.size
section
variable {n : Nat} {w0 w w' : World} {F S : Nat → Prop} {u : Value} {l : List (Tm n)}
theorem NewI.of (h : NewAt w w' F n u l) (hw : w0.heap.size ≤ w.heap.size) : NewI w0 w' F n u l := ⟨h.items, h.typed, fun g hg => ⟨Nat.le_trans hw (h.inr g hg).1, (h.inr g hg).2⟩⟩
theorem NewI.touch (h : NewI w0 w F n u l) (ht : TouchB S w w') (hS : ∀ k, S k → k < w0.heap.size) : NewI w0 w' F n u l := by
  have hs : ∀ g, F g → w'.heap[g]? = w.heap[g]? := fun g hg => ht.block g (h.inr g hg).2 (fun e => by have := hS g e; have := (h.inr g hg).1; omega)
  exact ⟨h.items.mono hs (fun _ hg => hg), h.typed.same hs, fun g hg => ⟨(h.inr g hg).1, Nat.lt_of_lt_of_le (h.inr g hg).2 ht.size⟩⟩
theorem NewI.below (h : NewI w0 w F n u l) (hb : Below w.heap.size w w') : NewI w0 w' F n u l := h.touch (S := fun _ => False) ((TouchB.refl _ _).ofBelow hb (Nat.le_refl _)) (fun _ f => f.elim)
end
theorem yieldsB_cell {ops : Array Oper} {S : World → Prop} {op : Oper} {a : Act} (hw : Region.wanted op (yielded ops a.tmps) = true) (ty : TypeId) (x : Operand) (ho : op.op = .load ty x) (b o : Nat) (hx : a.eval x = .pointer (some ⟨b, o, none⟩)) (v : Value)
    (hl : ∀ w a v, w.cell? a = some v → (loadVar ty a).run Tryz.prog w = .ok v w) (hS : ∀ w, S w → w.cell? ⟨b, o, none⟩ = some v) : YieldsIf Tryz.prog ops S op v a :=
  .inl ⟨hw, fun w hs => by
    unfold execOp
    simp only [ho, hx, Instr.loadAt, Instr.sureAddr, Sem.run_bind, Sem.run_pure, Result.andThen_ok, hl w _ v (hS w hs)]⟩
theorem ld96 (w : World) (a : Addr) (v : Value) (h : w.cell? a = some v) : (loadVar 96 a).run Tryz.prog w = .ok v w := by
  go_simp
theorem st96 (w : World) (a : Addr) (v0 v : Value) (hv : v.oneCell' = true) (h : w.cell? a = some v0) (hf : w.frozen? a = false) : (storeVar 96 a v).run Tryz.prog w = .ok () (w.setCell a v) := by
  have hi : (Tryz.prog.info? 96).map (·.size) = some 1 := by kernel_rfl
  cases hq : Tryz.prog.info? 96 with
  | none => simp [hq] at hi
  | some ie =>
    have hs : ie.size = 1 := by simpa [hq] using hi
    have hc : v.cells = #[v] := by cases v <;> first | rfl | simp [Value.oneCell'] at hv
    have ha : a.add 0 = a := by cases a; simp [Addr.add]
    simp [storeVar, hc, sizeOf, typeInfo, hq, hs, storeCells, run_store Tryz.prog _ _ v _ hv, ha, h, hf, Result.andThen]
theorem step_store_run {w w' : World} {ops : Array Oper} {o : Oper} {a : Act} {K : Act → World → Prop} {Q : Exit → Act → World → Prop} {E : Prop} (hw : Region.wanted o (yielded ops a.tmps) = true) (ty : TypeId) (x y : Operand)
    (ho : o.op = .store ty x y) {p : Addr} {v : Value} (hx : a.eval x = .pointer (some p)) (hy : a.eval y = v) (hr : (storeVar ty p v).run Tryz.prog w = .ok () w')
    (hK : K (a.put o.dst undef) w') : if Region.wanted o (yielded ops a.tmps) = true then Oper.wp Tryz.prog o a w K Q else E := by
  rw [if_pos hw]
  unfold Oper.wp execOp
  simp only [ho, hx, hy, Instr.storeAt, Instr.sureAddr, Sem.run_bind, Sem.run_pure, Result.andThen_ok, hr]
  exact hK
section
variable {N : Nat} {w : World} {B : Nat} {vr : Value} {l : List (RowE N)}
theorem row_split {i : Nat} (hi : i < l.length) : l.flatMap rowL = ((l.take i).flatMap rowL ++ nineL l[i].k.f l[i].uk) ++ nineL l[i].v.f l[i].uv ++ ([.int .u32 l[i].h] ++ (l.drop (i + 1)).flatMap rowL) := by
  have e : l = l.take i ++ l[i] :: l.drop (i + 1) := by rw [List.getElem_cons_drop, List.take_append_drop]
  conv => lhs; rw [e]
  rw [List.flatMap_append, List.flatMap_cons]
  unfold rowL
  simp only [List.append_assoc]
theorem setv_split {i : Nat} (hi : i < l.length) (v : Tm (N + 1)) (u : Value) : (l.set i { l[i] with v := v, uv := u }).flatMap rowL = ((l.take i).flatMap rowL ++ nineL l[i].k.f l[i].uk) ++ nineL v.f u ++ ([.int .u32 l[i].h] ++ (l.drop (i + 1)).flatMap rowL) := by
  rw [List.set_eq_take_append_cons_drop, if_pos hi, List.flatMap_append, List.flatMap_cons]
  unfold rowL
  simp only [List.append_assoc]
theorem store_row (hown : RecOwn rowL 108 19 w B vr l) (hE : EncOK rowL 19 l) {i : Nat} (hi : i < l.length) {g : Nat} {n c : Nat} (hvr : vr = .slice (some ⟨g, 0, none⟩) n c) (v : Tm (N + 1)) {u : Value} (hu : u.oneCell' = true) :
    ∃ w', (storeVar 24 ⟨g, i * 19 + 9, none⟩ (aggV v.f u)).run Tryz.prog w = .ok () w' ∧ RecOwn rowL 108 19 w' B vr (l.set i { l[i] with v := v, uv := u }) ∧ TouchB (fun k => vr.ownBlock = some k) w w' := by
  obtain ⟨g', cap, cur, hv, hbg, hg, hnc, hcm, hcs, htk⟩ := own_parts hown (by omega)
  subst hvr
  simp only [Value.slice.injEq, Option.some.injEq, Addr.mk.injEq, and_true, true_and] at hv
  obtain ⟨rfl, rfl, rfl⟩ := hv
  have hlen : (nineL v.f u).length = 9 := rfl
  have hcl : cur.toList.length = c * 19 := by rw [Array.length_toList]; exact hcs
  have hst := run_storeCells_at Tryz.prog g (i * 19 + 9) 108 (nineL v.f u) 0 cur w hg (by rw [hlen, hcs]; omega) (nineL_one hu)
  simp only [Nat.add_zero] at hst
  have hi24 : (Tryz.prog.info? 24).map (·.size) = some 9 := by kernel_rfl
  have hP : ((l.take i).flatMap rowL ++ nineL l[i].k.f l[i].uk).length = i * 19 + 9 := by
    rw [List.length_append, flat_len (hE.sub (fun a ha => List.mem_of_mem_take ha)), List.length_take, Nat.min_eq_left (by omega)]
    rfl
  have htk2 : cur.toList.take (l.length * 19) = ((l.take i).flatMap rowL ++ nineL l[i].k.f l[i].uk) ++ nineL l[i].v.f l[i].uv ++ ([.int .u32 l[i].h] ++ (l.drop (i + 1)).flatMap rowL) := htk.trans (row_split hi)
  have hput := put_seg (X := nineL v.f u) htk2 hP rfl
  have hE2 : EncOK rowL 19 (l.set i { l[i] with v := v, uv := u }) := fun r hr => by
    rcases List.mem_or_eq_of_mem_set hr with h | h
    · exact hE r h
    · subst h
      refine ⟨rfl, fun x hx => ?_⟩
      unfold rowL at hx
      have h1 := (hE _ (List.getElem_mem hi)).2
      rcases List.mem_append.1 hx with hx | hx
      · exact h1 x (by unfold rowL; exact List.mem_append_left _ hx)
      rcases List.mem_append.1 hx with hx | hx
      · exact nineL_one hu x hx
      · simp at hx; subst hx; rfl
  refine ⟨w.setRow g (put cur.toList (i * 19 + 9) (nineL v.f u)).toArray, ?_, ⟨?_, .inr ⟨g, c, (put cur.toList (i * 19 + 9) (nineL v.f u)).toArray, by simp, hbg, setRow_heap _ _ _ _ _ _ hg, by simpa using hnc, hcm, ?_, ?_⟩⟩, ⟨rfl, rfl, rfl, by simp [World.setRow], fun k hk hn => setRow_other _ g k _ (fun e => hn (by subst e; rfl))⟩⟩
  · have hc : (aggV v.f u).cells.toList = nineL v.f u := rfl
    have hc2 : (aggV v.f u).cells.size = 9 := rfl
    cases hq : Tryz.prog.info? 24 with
    | none => simp [hq] at hi24
    | some ie =>
      have hs : ie.size = 9 := by simpa [hq] using hi24
      unfold put
      rw [hlen] at hst ⊢
      simp [storeVar, sizeOf, typeInfo, hq, hs, hc, hc2, hst, hlen]
  · exact flat_len hE2
  · rw [List.size_toArray, put_len (by rw [hcl, hlen]; omega), hcl]
  · rw [List.toList_toArray, List.length_set, setv_split hi]
    exact hput
theorem three_boxes (w : World) (o1 o2 o3 : Obj) {x1 x2 x3 : List Value} {t1 t2 t3 : TypeId} (e1 : o1 = .cells x1.toArray t1) (e2 : o2 = .cells x2.toArray t2) (e3 : o3 = .cells x3.toArray t3) {S : Nat → Prop} (hS : ∀ k, S k → k < w.heap.size) :
    Below w.heap.size w (((w.alloc o1).alloc o2).alloc o3) ∧ ∀ W, TouchB S (((w.alloc o1).alloc o2).alloc o3) W → W.rangeAt w.heap.size 0 x1 ∧ W.rangeAt (w.heap.size + 1) 0 x2 ∧ W.rangeAt (w.heap.size + 2) 0 x3 := by
  obtain ⟨h1, h2, h3⟩ := two_boxes w o1 o2
  have h4 := alloc_new ((w.alloc o1).alloc o2) o3
  have hs : ((w.alloc o1).alloc o2).heap.size = w.heap.size + 2 := by rw [World.size_alloc, World.size_alloc]
  rw [hs] at h4
  have k1 := (Below.heap_alloc ((w.alloc o1).alloc o2) o3 w.heap.size (by omega)).trans h2
  have k2 := (Below.heap_alloc ((w.alloc o1).alloc o2) o3 (w.heap.size + 1) (by omega)).trans h3
  refine ⟨belowA h1 o3 h1.size, fun W hW => ?_⟩
  have hr : ∀ g (x : List Value) t, w.heap.size ≤ g → (((w.alloc o1).alloc o2).alloc o3).heap[g]? = some (.cells x.toArray t) → W.rangeAt g 0 x := fun g x t hg hx j u hu => by
    have hb := (hW.block g (Array.getElem?_eq_some_iff.1 hx).1 (fun e => by have := hS g e; omega)).trans hx
    rw [cell_of_row W g (0 + j) x.toArray t _ hb]
    simpa using hu
  exact ⟨hr _ _ _ (Nat.le_refl _) (by rw [k1, e1]), hr _ _ _ (by omega) (by rw [k2, e2]), hr _ _ _ (by omega) (by rw [h4, e3])⟩
end
def insK {α : Type} (l : List α) (i : Nat) (a : α) : List α := l.take i ++ [a] ++ l.drop i
def setV {N : Nat} (l : List (RowE N)) (i : Nat) (v : Tm (N + 1)) (u : Value) : List (RowE N) := match l[i]? with
  | none => l
  | some r => l.set i { r with v := v, uv := u }
theorem setV_of {N : Nat} {l : List (RowE N)} {i : Nat} (hi : i < l.length) (v : Tm (N + 1)) (u : Value) : setV l i v u = l.set i { l[i] with v := v, uv := u } := by
  unfold setV
  rw [List.getElem?_eq_getElem hi]
def zT {N : Nat} : Tm (N + 1) := Tm.mk zeroF []
noncomputable def newRow {N : Nat} (k : Tm (N + 1)) (u : Value) : RowE N := ⟨k, zT, hashT k, u, nilV⟩
noncomputable def midRows {N : Nat} (t : TabE N) (k : Tm (N + 1)) (u : Value) : List (RowE N) := if hasK t k then t.rows else insK t.rows (posK t k) (newRow k u)
def MoveS {N : Nat} (t : TabE N) (q : Nat) : Prop := q = t.b ∨ t.vr.ownBlock = some q
structure TabQ {N : Nat} (w : World) (B : Nat) (F : Nat → Prop) (t : TabE N) (W : World) (F1 : Nat → Prop) (vr : Value) (l : List (RowE N)) : Prop where
  at_ : TabAt W B F1 { t with vr := vr, rows := l }
  touch : TouchB (MoveS t) w W
  more : ∀ g, F g → F1 g
  ty : Typed W F1
  fl : ∀ g, F1 g → g < W.heap.size
  own : ∀ q, vr.ownBlock = some q → t.vr.ownBlock = some q ∨ w.heap.size ≤ q
def MidQ {N : Nat} (w : World) (B : Nat) (F : Nat → Prop) (t : TabE N) (k : Tm (N + 1)) (W : World) : Prop := ∃ F1 uk vr, TabQ w B F t W F1 vr (midRows t k uk)
def PutQ {N : Nat} (w : World) (B : Nat) (F : Nat → Prop) (t : TabE N) (k v : Tm (N + 1)) (W : World) : Prop := ∃ F1 uk uv vr, TabQ w B F t W F1 vr (setV (midRows t k uk) (posK t k) v uv)
section
variable {N : Nat} {w : World} {B : Nat} {F : Nat → Prop} {t : TabE N} {k v : Tm (N + 1)}
theorem typed_ty {W : World} {G : Nat → Prop} (h : Typed W G) {g : Nat} (hg : G g) : tyOf W g = some 24 := by
  obtain ⟨cur, M, h1, _⟩ := h g hg
  exact tyOf_of h1
theorem mid_has (h : TabAt w B F t) (hty : Typed w F) (hfl : ∀ g, F g → g < w.heap.size) (hh : hasK t k = true) {W : World} (hb : Below w.heap.size w W) : MidQ w B F t k W := by
  refine ⟨F, nilV, t.vr, ?_, (TouchB.refl _ _).ofBelow hb (Nat.le_refl _), fun _ hg => hg, hty.same (fun g hg => hb.block g (hfl g hg)), fun g hg => Nat.lt_of_lt_of_le (hfl g hg) hb.size, fun q hq => .inl hq⟩
  unfold midRows
  rw [if_pos hh]
  exact h.below hb hfl
theorem tab_set (t : TabE N) (vr : Value) (l : List (RowE N)) : (tabL t).toArray.setIfInBounds 19 vr = (tabL { t with vr := vr, rows := l }).toArray := by
  unfold tabL nineL
  simp
theorem set_block {W : World} {b o : Nat} {c : Array Value} {ty : TypeId} (h : W.heap[b]? = some (.cells c ty)) (v : Value) : (W.setCell ⟨b, o, none⟩ v).heap[b]? = some (.cells (c.setIfInBounds o v) ty) := heap_setCell_same W b o c ty v h
theorem ins_step (h : TabAt w B F t) (hty : Typed w F) (hfl : ∀ g, F g → g < w.heap.size) (hB : B ≤ w.heap.size) (hlen : t.rows.length ≤ 1000000) (hh : hasK t k = false) {W : World} (hb : Below w.heap.size w W) {zv : Nat} {F1 : Nat → Prop} {u : Value}
    (hN : NewI w W F1 N u k.items) (hz0 : w.heap.size ≤ zv) (hz : W.heap[zv]? = some (.cells (rowL (newRow k u)).toArray 108)) :
    Calls Tryz.prog 60 #[t.vr, .int .i64 (posK t k), .slice (some ⟨zv, 0, none⟩) 1 1] W fun e w' => ∃ v', e = .returned v' ∧ v'.oneCell' = true ∧ TouchB (fun q => t.vr.ownBlock = some q) W w' ∧ w'.cell? ⟨t.b, 19, none⟩ = some t.vr ∧ w'.frozen? ⟨t.b, 19, none⟩ = false ∧ MidQ w B F t k (w'.setCell ⟨t.b, 19, none⟩ v') := by
  have hW := h.below hb hfl
  have hE1 : EncOK rowL 19 [newRow k u] := fun r hr => ⟨rowL_len r, fun x hx => by
    obtain rfl : r = newRow k u := by simpa using hr
    unfold rowL at hx
    rcases List.mem_append.1 hx with hx | hx
    · exact nineL_one (in_one hN.items) x hx
    rcases List.mem_append.1 hx with hx | hx
    · exact nineL_one rfl x hx
    · simp at hx; subst hx; rfl⟩
  have hvl : ∀ q, t.vr.ownBlock = some q → q < w.heap.size := fun q hq => (h.rows.lt hq).2
  refine (insert60 hW.rows (Nat.le_trans hB hb.size) hlen hW.enc hE1 hz (fun e => by have := hvl _ e; omega) (posK_le t k)).mono ?_
  rintro e w' ⟨v', rfl, hown, hT, hv⟩
  have hone : v'.oneCell' = true := by obtain ⟨p, c, rfl, _, _⟩ := hown.shape; rfl
  have hne : t.vr.ownBlock ≠ some t.b := fun e => ty_ne (tyOf_of h.blk) (ownTy h.rows e) (by decide) rfl
  have hblk : w'.heap[t.b]? = some (.cells (tabL t).toArray 98) := (hT.block _ hW.lt (fun e => hne e)).trans hW.blk
  obtain ⟨_, _, _, hc19, hfz⟩ := tab_cells hblk
  refine ⟨v', rfl, hone, hT, hc19, hfz 19, ?_⟩
  have hN' : NewI w w' F1 N u k.items := hN.touch hT (fun q hq => hvl q hq)
  have hTw : TouchB (MoveS t) w (w'.setCell ⟨t.b, 19, none⟩ v') := TouchB.setCell (((TouchB.refl _ _).ofBelow hb (Nat.le_refl _)).trans hT (fun _ _ e => .inr e)) _ _ (fun _ => .inl rfl)
  have hsz : (w'.setCell ⟨t.b, 19, none⟩ v').heap.size = w'.heap.size := by simp
  have hset : ∀ g, g ≠ t.b → (w'.setCell ⟨t.b, 19, none⟩ v').heap[g]? = w'.heap[g]? := fun g hg => Below.heap_setCell _ _ _ _ hg
  have hF1ne : ∀ g, F1 g → g ≠ t.b := fun g hg e => by have := (hN.inr g hg).1; have := h.lt; omega
  have hFne : ∀ g, F g → g ≠ t.b ∧ t.vr.ownBlock ≠ some g := fun g hg => ⟨ty_ne (typed_ty hty hg) (tyOf_of h.blk) (by decide), fun e => ty_ne (typed_ty hty hg) (ownTy h.rows e) (by decide) rfl⟩
  have hFs : ∀ g, F g → (w'.setCell ⟨t.b, 19, none⟩ v').heap[g]? = w.heap[g]? := fun g hg => (hset g (hFne g hg).1).trans ((hT.block g (Nat.lt_of_lt_of_le (hfl g hg) hb.size) (hFne g hg).2).trans (hb.block g (hfl g hg)))
  have hF1s : ∀ g, F1 g → (w'.setCell ⟨t.b, 19, none⟩ v').heap[g]? = w'.heap[g]? := fun g hg => hset g (hF1ne g hg)
  have hv'b : v'.ownBlock ≠ some t.b := fun e => by
    rcases hv _ e with e | e
    · exact hne e
    · have := hW.lt; omega
  refine ⟨fun g => F g ∨ F1 g, u, v', ⟨⟨?_, ?_, h.iref.mono hFs (fun _ q => .inl q), h.iown.mono hFs (fun _ q => .inl q), ?_, h.low⟩, hTw, fun _ q => .inl q, (hty.same hFs).union (hN'.typed.same hF1s), ?_, fun q hq => ?_⟩⟩
  · exact (set_block hblk v').trans (by rw [tab_set t v' (midRows t k u)])
  · show RecOwn rowL 108 19 _ B v' (midRows t k u)
    unfold midRows insK
    rw [hh, if_neg (by decide)]
    exact hown.same (fun q hq => hset q (fun e => hv'b (by rw [← e]; exact hq)))
  · intro r hr
    have hr' : r ∈ insK t.rows (posK t k) (newRow k u) := by
      have hr : r ∈ midRows t k u := hr
      unfold midRows at hr
      rwa [hh, if_neg (by decide)] at hr
    unfold insK at hr'
    simp only [List.mem_append, List.mem_singleton] at hr'
    rcases hr' with (hr' | rfl) | hr'
    · have := h.irow r (List.mem_of_mem_take hr')
      exact ⟨this.1.mono hFs (fun _ q => .inl q), this.2.mono hFs (fun _ q => .inl q)⟩
    · exact ⟨hN'.items.mono hF1s (fun _ q => .inr q), ItemsIn.nil_any (by decide)⟩
    · have := h.irow r (List.mem_of_mem_drop hr')
      exact ⟨this.1.mono hFs (fun _ q => .inl q), this.2.mono hFs (fun _ q => .inl q)⟩
  · rintro g (hg | hg)
    · rw [hsz]; exact Nat.lt_of_lt_of_le (hfl g hg) (Nat.le_trans hb.size hT.size)
    · rw [hsz]; exact (hN'.inr g hg).2
  · rcases hv q hq with e | e
    · exact .inl e
    · exact .inr (Nat.le_trans hb.size e)
theorem pos_mid (t : TabE N) (k : Tm (N + 1)) (u : Value) : posK t k < (midRows t k u).length := by
  unfold midRows
  split
  · rename_i hh
    unfold hasK at hh
    by_cases hp : posK t k < t.rows.length
    · exact hp
    · rw [List.getElem?_eq_none (by omega)] at hh
      cases hh
  · unfold insK
    have := posK_le t k
    simp only [List.length_append, List.length_take, List.length_drop, List.length_singleton]
    omega
theorem val_step (hB : B ≤ w.heap.size) (hlowv : ∀ q, t.vr.ownBlock = some q → B ≤ q) (hlow : B ≤ t.b) {Wm : World} (hm : MidQ w B F t k Wm) {uv0 : Value} {B2 : Nat} (hB2 : B2 ≤ B) (hI : ItemsAt w B2 N uv0 v.items) (hn : nodesT v ≤ 100000000) :
    ∃ g n c, Wm.cell? ⟨t.b, 19, none⟩ = some (.slice (some ⟨g, 0, none⟩) n c) ∧ posK t k < n ∧ n ≤ maxLen ∧ t.b < Wm.heap.size ∧ g ≠ t.b ∧ tyOf Wm g = some 108 ∧
      ∀ W, Below Wm.heap.size Wm W → Calls Tryz.prog 51 #[aggV v.f uv0] W (TPost v.f v.items W) ∧ ∀ F2 u2, NewI Wm W F2 N u2 v.items → ∃ w', (storeVar 24 ⟨g, posK t k * 19 + 9, none⟩ (aggV v.f u2)).run Tryz.prog W = .ok () w' ∧ PutQ w B F t k v w' ∧ TouchB (fun q => q = g) W w' := by
  obtain ⟨F1, uk, vr, hq⟩ := hm
  have hpos := pos_mid t k uk
  have hbB : Below B w Wm := hq.touch.below (fun q hq => by rcases hq with rfl | e; exact hlow; exact hlowv q e) hB
  have hown := hq.at_.rows
  obtain ⟨g, cap, cur, hv, hbg, hg, hnc, hcm, hcs, htk⟩ := own_parts hown (by show 0 < (midRows t k uk).length; omega)
  have hv : vr = .slice (some ⟨g, 0, none⟩) (midRows t k uk).length cap := hv
  have hblk : Wm.heap[t.b]? = some (.cells (tabL { t with vr := vr, rows := midRows t k uk }).toArray 98) := hq.at_.blk
  obtain ⟨_, _, _, hc19, _⟩ := tab_cells hq.at_.blk
  have hgl : g < Wm.heap.size := (Array.getElem?_eq_some_iff.1 hg).1
  have hgt : tyOf Wm g = some 108 := tyOf_of hg
  have hgb : g ≠ t.b := ty_ne hgt (tyOf_of hblk) (by decide)
  refine ⟨g, (midRows t k uk).length, cap, hc19.trans (by rw [← hv]), hpos, Nat.le_trans hnc hcm, (Array.getElem?_eq_some_iff.1 hblk).1, hgb, hgt, fun W hb => ?_⟩
  have hsz : B2 ≤ W.heap.size := by have := hb.size; have := hbB.size; omega
  refine ⟨copyAll N W B2 uv0 v hsz ((hI.below hbB hB2).below hb (by have := hbB.size; omega)) hn, fun F2 u2 hN => ?_⟩
  have hW := hq.at_.below hb hq.fl
  obtain ⟨w', hst, hown', hT⟩ := store_row (i := posK t k) hW.rows hW.enc hpos hv v (in_one hN.items)
  have hvb : ∀ q, vr.ownBlock = some q → q = g := fun q e => by rw [hv] at e; exact (Option.some.inj e).symm
  have hT2 : TouchB (fun q => q = g) W w' := hT.mono (fun q _ e => hvb q e)
  refine ⟨w', hst, ?_, hT2⟩
  have hs : ∀ q, q < Wm.heap.size → q ≠ g → w'.heap[q]? = Wm.heap[q]? := fun q hq1 hq2 => (hT2.block q (Nat.lt_of_lt_of_le hq1 hb.size) hq2).trans (hb.block q hq1)
  have hF1s : ∀ q, F1 q → w'.heap[q]? = Wm.heap[q]? := fun q hq1 => hs q (hq.fl q hq1) (ty_ne (typed_ty hq.ty hq1) hgt (by decide))
  have hN' := hN.touch hT2 (fun q e => by subst e; exact hgl)
  have hF2s : ∀ q, F2 q → w'.heap[q]? = w'.heap[q]? := fun _ _ => rfl
  have hset : (midRows t k uk).set (posK t k) { (midRows t k uk)[posK t k] with v := v, uv := u2 } = setV (midRows t k uk) (posK t k) v u2 := (setV_of hpos v u2).symm
  refine ⟨fun q => F1 q ∨ F2 q, uk, u2, vr, ⟨⟨?_, ?_, hq.at_.iref.mono hF1s (fun _ e => .inl e), hq.at_.iown.mono hF1s (fun _ e => .inl e), ?_, hq.at_.low⟩, ?_, fun q e => .inl (hq.more q e), (hq.ty.same hF1s).union hN'.typed, ?_, hq.own⟩⟩
  · exact (hs t.b (Array.getElem?_eq_some_iff.1 hblk).1 (Ne.symm hgb)).trans hblk
  · rw [← hset]
    exact hown'
  · intro r hr
    have hr : r ∈ setV (midRows t k uk) (posK t k) v u2 := hr
    rw [← hset] at hr
    rcases List.mem_or_eq_of_mem_set hr with hr | rfl
    · have := hq.at_.irow r hr
      exact ⟨this.1.mono hF1s (fun _ e => .inl e), this.2.mono hF1s (fun _ e => .inl e)⟩
    · have := hq.at_.irow _ (List.getElem_mem hpos)
      exact ⟨this.1.mono hF1s (fun _ e => .inl e), hN'.items.mono hF2s (fun _ e => .inr e)⟩
  · refine (hq.touch.ofBelow hb hq.touch.size).trans hT2 (fun q hql e => ?_)
    subst e
    rcases hq.own q (by rw [hv]; rfl) with e | e
    · exact .inr e
    · omega
  · rintro q (e | e)
    · exact Nat.lt_of_lt_of_le (hq.fl q e) (Nat.le_trans hb.size hT2.size)
    · exact (hN'.inr q e).2
end
section
variable {N : Nat} {w w' : World} {B : Nat} {F : Nat → Prop} {s : TbSt N}
theorem TabQ.upd (h : TbAt w B F s) {i : Nat} (hi : i < s.tabs.length) {F1 : Nat → Prop} {vr : Value} {l : List (RowE N)} (hq : TabQ w B F s.tabs[i] w' F1 vr l) : TbAt w' B F1 { s with tabs := s.tabs.set i { s.tabs[i] with vr := vr, rows := l } } ∧ TT progT B w w' := by
  have ht := h.tabs _ (List.getElem_mem hi)
  refine ⟨h.upd (List.getElem?_eq_getElem hi) hq.touch rfl hq.at_ hq.own hq.more hq.ty hq.fl, hq.touch.mono (fun q _ hS => ?_)⟩
  rcases hS with rfl | e
  · exact ⟨ht.low, 98, tyOf_of ht.blk, .inr (.inr (.inl rfl))⟩
  · exact ⟨(ht.rows.lt e).1, 108, ownTy ht.rows e, .inr (.inr (.inr rfl))⟩
end
end Go.Proofs.YtfbggmbmgohiiaaGreat.tb
namespace Go.Proofs.YtfbggmbmgohiiaaGreat.tm
theorem tpV {n : Nat} : TP (fun _ : Tm (n + 1) => True) (cmpV (n := n)) := by
  have h := (ordT (n + 1)).tp
  refine ⟨fun a b => ?_, fun a b => ?_, fun a b d _ _ _ x y => ?_⟩
  · unfold cmpV
    repeat' split
    all_goals first | exact h.range a b | simp
  · have e := h.anti a b
    unfold cmpV
    by_cases ha : validT a = true <;> by_cases hb : validT b = true <;> simp [ha, hb, e]
  · unfold cmpV at *
    by_cases ha : validT a = true <;> by_cases hb : validT b = true <;> by_cases hd : validT d = true <;> simp [ha, hb, hd] at x y ⊢
    exact h.trans a b d (valid_formed ha) (valid_formed hb) (valid_formed hd) x y
variable {β : Type} {c : β → β → Int}
def leB (c : β → β → Int) (x y : β) : Bool := decide (c x y ≤ 0)
theorem sort_unique (h : TP (fun _ => True) c) (l : List β) (p : List (Nat × β)) (hp : (p.map fun x => (x.2, x.1)).Perm l.zipIdx) (hs : p.Pairwise (tlt (fun x y : Nat × β => c x.2 y.2) (fun x => x.1))) : p.map (fun x => x.2) = l.mergeSort (leB c) := by
  rw [← List.mergeSort_zipIdx]
  have htr : ∀ a b d, leB c a b = true → leB c b d = true → leB c a d = true := fun a b d x y => by
    unfold leB at *
    rw [decide_eq_true_eq] at *
    exact h.trans a b d trivial trivial trivial x y
  have hto : ∀ a b, (leB c a b || leB c b a) = true := fun a b => by
    unfold leB
    have := h.anti a b
    rw [Bool.or_eq_true, decide_eq_true_eq, decide_eq_true_eq]; omega
  have e : (p.map fun x => (x.2, x.1)) = l.zipIdx.mergeSort (List.zipIdxLE (leB c)) := by
    refine List.Perm.eq_of_pairwise (le := fun a b => List.zipIdxLE (leB c) a b = true) ?_ ?_ ?_ (hp.trans (List.mergeSort_perm _ _).symm)
    · rintro ⟨a, i⟩ ⟨b, j⟩ ha hb h1 h2
      have hij : i = j := by
        unfold List.zipIdxLE leB at h1 h2
        have := h.anti a b
        simp only [decide_eq_true_eq] at h1 h2
        repeat' split at h1
        all_goals (repeat' split at h2)
        all_goals first | (cases h1; done) | (cases h2; done) | (simp at h1 h2; omega) | omega
      subst hij
      have ha' := hp.mem_iff.1 ha
      have hb' := List.mem_mergeSort.1 hb
      rw [List.mk_mem_zipIdx_iff_getElem?] at ha' hb'
      rw [ha'] at hb'
      simp only [Option.some.injEq] at hb'
      rw [hb']
    · rw [List.pairwise_map]
      refine hs.imp ?_
      rintro ⟨i, a⟩ ⟨j, b⟩ h1
      unfold tlt at h1
      unfold List.zipIdxLE leB
      dsimp only at h1 ⊢
      have := h.anti a b
      rcases h1 with h1 | ⟨h1, h2⟩
      · rw [if_pos (by rw [decide_eq_true_eq]; omega), if_neg (by rw [decide_eq_true_eq]; omega)]
      · rw [if_pos (by rw [decide_eq_true_eq]; omega), if_pos (by rw [decide_eq_true_eq]; omega)]
        exact decide_eq_true (by omega)
    · exact List.pairwise_mergeSort (List.zipIdxLE_trans htr) (List.zipIdxLE_total hto) _
  rw [← e, List.map_map]
  rfl
end Go.Proofs.YtfbggmbmgohiiaaGreat.tm
namespace Go.Proofs.YtfbggmbmgohiiaaGreat.tb
open Go.RowKit mem rec tm names
section
variable {N : Nat}
noncomputable def cmpH {N : Nat} (hs : Bool) : Tm (N + 1) → Tm (N + 1) → Int := if hs then thenC (fun x y => cmpI (hashT x) (hashT y)) cmpV else cmpV
abbrev Vd {N : Nat} : Tm (N + 1) → Prop := fun k => validT k = true
theorem cmpV_eq {a b : Tm (N + 1)} (ha : validT a = true) (hb : validT b = true) (h : cmpV a b = 0) : a = b := by
  unfold cmpV at h
  rw [if_pos ha, if_pos hb] at h
  exact (ordT (N + 1)).eq a b (valid_formed ha) (valid_formed hb) h
theorem ordH (hs : Bool) : Ord (Vd (N := N)) (cmpH hs) := by
  cases hs
  · exact ⟨tpV, fun a b ha hb h => cmpV_eq ha hb h⟩
  · refine ⟨(TP.comap tpI hashT).then tpV, fun a b ha hb h => ?_⟩
    have h : thenC (fun x y => cmpI (hashT x) (hashT y)) cmpV a b = 0 := h
    unfold thenC at h
    split at h
    · exact cmpV_eq ha hb h
    · contradiction
theorem befH (hs : Bool) (x y : Tm (N + 1)) : befB hs x y (hashT x) (hK hs y) = decide (cmpH hs x y < 0) := by
  cases hs
  · rfl
  · unfold befB hK
    rw [if_pos rfl, if_pos rfl]
    show _ = decide ((if cmpI (hashT x) (hashT y) = 0 then cmpV x y else cmpI (hashT x) (hashT y)) < 0)
    by_cases h1 : hashT x < hashT y
    · have h2 := cmpI_lt.2 h1
      have h3 : ¬ cmpI (hashT x) (hashT y) = 0 := by omega
      rw [if_neg h3, decide_eq_true h2, decide_eq_true h1]
      rfl
    · by_cases h2 : hashT x = hashT y
      · rw [if_pos (cmpI_z.2 h2), decide_eq_false h1, h2]
        simp
      · have h3 : ¬ cmpI (hashT x) (hashT y) < 0 := fun h => h1 (cmpI_lt.1 h)
        rw [if_neg (fun h => h2 (cmpI_z.1 h)), decide_eq_false h1, decide_eq_false h3]
        simp [h2]
def absR (t : TabE N) : List (Tm (N + 1) × Tm (N + 1)) := t.rows.map (fun r => (r.k, r.v))
structure GoodT (t : TabE N) : Prop where
  hh : ∀ r ∈ t.rows, r.h = hashT r.k
  vd : ∀ r ∈ t.rows, validT r.k = true
  sd : SortR (cmpH t.hs) (absR t)
  nd : ∀ r ∈ t.rows, nodesT r.k ≤ 100000000 ∧ nodesT r.v ≤ 100000000
theorem findIdx_eq {α : Type} {p q : α → Bool} : ∀ {l : List α}, (∀ x ∈ l, p x = q x) → l.findIdx p = l.findIdx q
  | [], _ => rfl
  | a :: l, h => by rw [List.findIdx_cons, List.findIdx_cons, h a List.mem_cons_self, findIdx_eq (l := l) (fun x hx => h x (List.mem_cons_of_mem _ hx))]
theorem findIdx_map' {α β : Type} (f : α → β) (p : β → Bool) : ∀ l : List α, (l.map f).findIdx p = l.findIdx (fun x => p (f x))
  | [] => rfl
  | a :: l => by rw [List.map_cons, List.findIdx_cons, List.findIdx_cons, findIdx_map' f p l]
variable {t : TabE N} {k v : Tm (N + 1)}
theorem GoodT.pos (h : GoodT t) (k : Tm (N + 1)) : posK t k = posR (cmpH t.hs) (absR t) k := by
  unfold posK keyAt posR absR
  rw [findIdx_map']
  refine findIdx_eq fun x hx => ?_
  rw [h.hh x hx, befH]
theorem GoodT.has (h : GoodT t) (k : Tm (N + 1)) : hasK t k = hasR (cmpH t.hs) (absR t) k := by
  unfold hasK hasR
  rw [h.pos k]
  unfold absR
  rw [List.getElem?_map]
  cases t.rows[posR (cmpH t.hs) (t.rows.map (fun r => (r.k, r.v))) k]? <;> rfl
theorem GoodT.keys (h : GoodT t) : ∀ x ∈ absR t, Vd x.1 := fun x hx => by
  obtain ⟨r, hr, rfl⟩ := List.mem_map.1 hx
  exact h.vd r hr
theorem GoodT.hasp (h : GoodT t) (hh : hasK t k = true) : ∃ hp : posK t k < t.rows.length, (t.rows[posK t k]).k = k := by
  unfold hasK at hh
  by_cases hp : posK t k < t.rows.length
  · rw [List.getElem?_eq_getElem hp] at hh
    exact ⟨hp, of_eqB hh⟩
  · rw [List.getElem?_eq_none (by omega)] at hh
    cases hh
theorem setV_ins {l : List (RowE N)} {i : Nat} (hi : i ≤ l.length) (a : RowE N) (v : Tm (N + 1)) (u : Value) : setV (insK l i a) i v u = l.take i ++ { a with v := v, uv := u } :: l.drop i := by
  have hl : (l.take i).length = i := by rw [List.length_take]; omega
  have e : (insK l i a)[i]? = some a := by
    unfold insK
    rw [List.append_assoc, List.getElem?_append_right (by omega), hl, Nat.sub_self]
    rfl
  unfold setV
  rw [e]
  unfold insK
  dsimp only
  rw [List.append_assoc, List.set_append_right _ _ (by omega), hl, Nat.sub_self]
  rfl
noncomputable def putRows (t : TabE N) (k v : Tm (N + 1)) (uk uv : Value) : List (RowE N) := setV (midRows t k uk) (posK t k) v uv
theorem put_rows_mem (h : GoodT t) {uk uv : Value} {r : RowE N} (hr : r ∈ putRows t k v uk uv) : (r.k = k ∧ r.v = v ∧ r.h = hashT k) ∨ ∃ r0 ∈ t.rows, r.k = r0.k ∧ r.h = r0.h ∧ r.v = r0.v := by
  unfold putRows midRows at hr
  cases hh : hasK t k
  · rw [hh, if_neg (by decide), setV_ins (posK_le t k)] at hr
    rcases List.mem_append.1 hr with hr | hr
    · exact .inr ⟨r, List.mem_of_mem_take hr, rfl, rfl, rfl⟩
    · rcases List.mem_cons.1 hr with rfl | hr
      · exact .inl ⟨rfl, rfl, rfl⟩
      · exact .inr ⟨r, List.mem_of_mem_drop hr, rfl, rfl, rfl⟩
  · rw [hh, if_pos rfl] at hr
    obtain ⟨hp, e⟩ := h.hasp hh
    rw [setV_of hp] at hr
    rcases List.mem_or_eq_of_mem_set hr with hr | rfl
    · exact .inr ⟨r, hr, rfl, rfl, rfl⟩
    · exact .inl ⟨e, rfl, (h.hh _ (List.getElem_mem hp)).trans (congrArg hashT e)⟩
theorem put_rows_abs (h : GoodT t) (uk uv : Value) : (putRows t k v uk uv).map (fun r => (r.k, r.v)) = putR (cmpH t.hs) (absR t) k v := by
  unfold putRows midRows putR
  rw [← h.has, ← h.pos]
  cases hh : hasK t k
  · rw [if_neg (by decide), if_neg (by decide), setV_ins (posK_le t k)]
    unfold absR
    rw [List.map_append, List.map_cons, List.map_take, List.map_drop]
    rfl
  · rw [if_pos rfl, if_pos rfl]
    obtain ⟨hp, e⟩ := h.hasp hh
    rw [setV_of hp, List.set_eq_take_append_cons_drop, if_pos hp]
    unfold absR
    rw [List.map_append, List.map_cons, List.map_take, List.map_drop, e]
theorem GoodT.put (h : GoodT t) (hk : validT k = true) (nk : nodesT k ≤ 100000000) (nv : nodesT v ≤ 100000000) {uk uv vr : Value} : GoodT { t with vr := vr, rows := putRows t k v uk uv } := by
  refine ⟨fun r hr => ?_, fun r hr => ?_, ?_, fun r hr => ?_⟩
  · rcases put_rows_mem h hr with ⟨e, _, e2⟩ | ⟨r0, hr0, e1, e2, _⟩
    · rw [e, e2]
    · rw [e1, e2]; exact h.hh r0 hr0
  · rcases put_rows_mem h hr with ⟨e, _⟩ | ⟨r0, hr0, e1, _⟩
    · rw [e]; exact hk
    · rw [e1]; exact h.vd r0 hr0
  · have e : absR { t with vr := vr, rows := putRows t k v uk uv } = putR (cmpH t.hs) (absR t) k v := put_rows_abs h uk uv
    rw [e]
    exact putR_sort (ordH t.hs) h.sd hk h.keys v
  · rcases put_rows_mem h hr with ⟨e, e2, _⟩ | ⟨r0, hr0, e1, _, e2⟩
    · rw [e, e2]; exact ⟨nk, nv⟩
    · rw [e1, e2]; exact h.nd r0 hr0
end
end Go.Proofs.YtfbggmbmgohiiaaGreat.tb
