/- Texts of this seat, one behind the other: TbO. No condition beyond theirs. -/
import Derived.Test.YtfbggmbmgohiiaaGreatK27
set_option linter.unusedSimpArgs false
set_option linter.unusedVariables false
set_option maxHeartbeats 4000000
set_option maxRecDepth 100000
namespace Go.Proofs.YtfbggmbmgohiiaaGreat.tb
open Go.RowKit mem rec tm names
theorem results_cell1 {fn:Func} {p:Tmp} {ty:TypeId} (h:fn.results = #[.cell p ty]) (tmps:Array Value) (P:Program) (w:World) :
 (results fn tmps).run P w = ((asAddr (tmps.getD p undef)).run P w).andThen fun a w₁=>(loadVar ty a).run P w₁:=by
 simp only [results,h]
 simp [Sem.run_bind,Result.andThen]
def nmN:ByteArray:=⟨#[110]⟩
def refT {N:Nat} (n:Int):Tm (N + 1):=Tm.mk ⟨3,n,1,nmN,⟨#[]⟩,0,⟨#[]⟩,0⟩ []
def pidT {N:Nat} (n:Int):Tm (N + 1):=Tm.mk ⟨6,n,1,nmN,⟨#[]⟩,0,⟨#[]⟩,0⟩ []
def intT {N:Nat} (n:Int):Tm (N + 1):=Tm.mk ⟨1,n,0,⟨#[]⟩,⟨#[]⟩,0,⟨#[]⟩,0⟩ []
def atomT {N:Nat} (s:ByteArray):Tm (N + 1):=Tm.mk ⟨2,0,0,s,⟨#[]⟩,0,⟨#[]⟩,0⟩ []
theorem flat_items {N:Nat} (w:World) (B:Nat):ItemsAt w B N nilV ([]:List (Tm N)):=ItemsAt.nil_any (Nat.zero_le _)
def VQ (v:Value) (w:World) (e:Ending) (w':World):Prop:=e = .returned v∧Below w.heap.size w w'
theorem ref18 {N:Nat} (n:Int) (w:World):Calls Tryz.prog 18 #[.int .i64 n] w (VQ (aggV (refT (N:=N) n).f nilV) w):=by
 have HB:=Lib.hid (fun o=>belowA (Below.refl w.heap.size w) o (Nat.le_refl _))
 go_enter Tryz.func18,Tryz.ntmps18
 go_wp2_with fail
 (try simp only [Exit.inBlock,Exit.then])
 refine bodyPost_ret (v:=.agg #[.int .i64 3,.int .i64 n,.int .i64 1,.string ⟨#[110]⟩,.string ⟨#[]⟩,.int .i64 0,.slice none 0 0,.string ⟨#[]⟩,.int .i64 0]) ?_ rfl ⟨rfl,?_⟩
 ·rw [results_cell1 rfl]
  go_simp
 ·exact HB.out _
theorem pid19 {N:Nat} (n:Int) (w:World):Calls Tryz.prog 19 #[.int .i64 n] w (VQ (aggV (pidT (N:=N) n).f nilV) w):=by
 have HB:=Lib.hid (fun o=>belowA (Below.refl w.heap.size w) o (Nat.le_refl _))
 go_enter Tryz.func19,Tryz.ntmps19
 go_wp2_with fail
 (try simp only [Exit.inBlock,Exit.then])
 refine bodyPost_ret (v:=.agg #[.int .i64 6,.int .i64 n,.int .i64 1,.string ⟨#[110]⟩,.string ⟨#[]⟩,.int .i64 0,.slice none 0 0,.string ⟨#[]⟩,.int .i64 0]) ?_ rfl ⟨rfl,?_⟩
 ·rw [results_cell1 rfl]
  go_simp
 ·exact HB.out _
theorem int29 {N:Nat} (n:Int) (w:World):Calls Tryz.prog 29 #[.int .i64 n] w (VQ (aggV (intT (N:=N) n).f nilV) w):=by
 have HB:=Lib.hid (fun o=>belowA (Below.refl w.heap.size w) o (Nat.le_refl _))
 go_enter Tryz.func29,Tryz.ntmps29
 go_wp2_with fail
 (try simp only [Exit.inBlock,Exit.then])
 refine bodyPost_ret (v:=.agg #[.int .i64 1,.int .i64 n,.int .i64 0,.string ⟨#[]⟩,.string ⟨#[]⟩,.int .i64 0,.slice none 0 0,.string ⟨#[]⟩,.int .i64 0]) ?_ rfl ⟨rfl,?_⟩
 ·rw [results_cell1 rfl]
  go_simp
 ·exact HB.out _
theorem atom43 {N:Nat} (s:ByteArray) (w:World):Calls Tryz.prog 43 #[.string s] w (VQ (aggV (atomT (N:=N) s).f nilV) w):=by
 have HB:=Lib.hid (fun o=>belowA (Below.refl w.heap.size w) o (Nat.le_refl _))
 go_enter Tryz.func43,Tryz.ntmps43
 go_wp2_with fail
 (try simp only [Exit.inBlock,Exit.then])
 refine bodyPost_ret (v:=.agg #[.int .i64 2,.int .i64 0,.int .i64 0,.string s,.string ⟨#[]⟩,.int .i64 0,.slice none 0 0,.string ⟨#[]⟩,.int .i64 0]) ?_ rfl ⟨rfl,?_⟩
 ·rw [results_cell1 rfl]
  go_simp
 ·exact HB.out _
theorem new16 {N:Nat} (w:World) (B:Nat) (hB:B ≤ w.heap.size):Calls Tryz.prog 16 #[] w fun e w'=>e = .returned (.pointer (some ⟨w.heap.size,0,none⟩))∧TbAt (N:=N) w' B (fun _=>False) ⟨w.heap.size,nilV,[]⟩∧Below w.heap.size w w':=by
 have HB:=Lib.hid (belowA (Below.refl w.heap.size w) (.cells #[.bool true,.slice none 0 0] 74) (Nat.le_refl _))
 have HZ:=Lib.hid (alloc_new w (.cells #[.bool true,.slice none 0 0] 74))
 go_enter Tryz.func16,Tryz.ntmps16
 go_wp2_with fail
 go_ret
 exact ⟨rfl,⟨HZ.out,RecOwn.nil _ _ _,fun t ht=>absurd ht List.not_mem_nil,List.nodup_nil,fun i j ti tj h=>by simp at h,hB,fun g hg=>hg.elim,fun g hg=>hg.elim⟩,HB.out⟩
section
variable {N:Nat} {w w':World} {B:Nat} {F:Nat→Prop}
theorem tab_cells {t:TabE N} (h:w.heap[t.b]? = some (.cells (tabL t).toArray 98)):Cells w t.b 0 t.ref.f t.ur∧Cells w t.b 9 t.own.f t.uo∧w.cell? ⟨t.b,18,none⟩ = some (kindV t.hs)∧w.cell? ⟨t.b,19,none⟩ = some t.vr∧∀ o,w.frozen? ⟨t.b,o,none⟩ = false:=by
 have e:∀ i,w.cell? ⟨t.b,i,none⟩ = (tabL t)[i]?:=fun i=>by simp only [World.cell?,h];simp
 refine ⟨⟨e 0,e 1,e 2,e 3,e 4,e 5,e 6,e 7,e 8⟩,⟨e 9,e 10,e 11,e 12,e 13,e 14,e 15,e 16,e 17⟩,e 18,e 19,fun o=>by simp only [World.frozen?,h];simp⟩
theorem same_in {n:Nat} {a b:Tm (n + 1)} {u1 u2:Value} {B2:Nat} (hF:∀ g,F g→g < w.heap.size) (h1:ItemsIn w F n u1 a.items) (hB:B2 ≤ w.heap.size) (h2:ItemsAt w B2 n u2 b.items):Calls Tryz.prog 66 #[aggV a.f u1,aggV b.f u2] w (BPost (eqB a b) w) :=
 Same66 w w.heap.size u1 u2 a b (Nat.le_refl _) (h1.toAt hF) (h2.more hB)
theorem clos82 {t:TabE N} {r:Tm (N + 1)} {u:Value} {zb B2:Nat} (h:TabAt w B F t) (hF:∀ g,F g→g < w.heap.size) (hB:B2 ≤ w.heap.size) (hI:ItemsAt w B2 N u r.items) (hz:w.heap[zb]? = some (cells9 r.f u)) :
 Calls Tryz.prog 82 #[.pointer (some ⟨t.b,0,none⟩),.pointer (some ⟨zb,0,none⟩)] w (BPost (eqB t.ref r) w):=by
 have HC:Hid (Calls Tryz.prog 66 #[aggV t.ref.f t.ur,aggV r.f u] w.drew (BPost (eqB t.ref r) w.drew)):=Lib.hid (same_in (w:=w.drew) hF (ItemsIn.mono (w:=w) (w':=w.drew) (F:=F) (F':=F) (fun _ _=>rfl) (fun _ hg=>hg) h.iref) hB (ItemsAt.same (w:=w) (w':=w.drew) (fun _ _=>rfl) hI))
 obtain ⟨⟨x0,x1,x2,x3,x4,x5,x6,x7,x8⟩,_,_,_,_⟩:=tab_cells h.blk
 obtain ⟨y0,y1,y2,y3,y4,y5,y6,y7,y8,yf⟩:=nine_of hz
 obtain ⟨pa,ca,ea,_,_⟩:=ItemsIn.shape h.iref
 obtain ⟨pb,cb,eb,_,_⟩:=hI.shape
 clear h hF hB hI hz
 generalize eqB t.ref r = q at *
 rw [ea] at x6 HC
 rw [eb] at y6 HC
 generalize t.ref.items.length = na at *
 generalize r.items.length = nb at *
 generalize t.ref.f = fa at *
 generalize r.f = fb at *
 generalize t.b = tb at *
 clear ea eb
 obtain ⟨k1,i1,j1,n1,f1,a1,b1,s1⟩:=fa
 obtain ⟨k2,i2,j2,n2,f2,a2,b2,s2⟩:=fb
 unfold aggV at HC
 dsimp only at HC x0 x1 x2 x3 x4 x5 x6 x7 x8 y0 y1 y2 y3 y4 y5 y6 y7 y8
 simp only [Nat.reduceAdd] at x0 x1 x2 x3 x4 x5 x6 x7 x8
 go_enter Tryz.func82,Tryz.ntmps82
 go_wp2_with fail
 go_still_tail 5,(by kernel_rfl)
 change wpList _ _ _ _ _ w.drew
 clear x0 x1 x2 x3 x4 x5 x6 x7 x8 y0 y1 y2 y3 y4 y5 y6 y7 y8 yf
 have HBd:=Lib.hid (belowD (Below.refl w.heap.size w))
 go_wp2_with fail
 refine HC.out.mono ?_
 rintro e w3 ⟨rfl,hb3⟩
 have HB4:=Lib.hid (HBd.out.trans (hb3.mono HBd.out.size))
 clear hb3
 go_wp2_with fail
 go_ret
 exact ⟨rfl,HB4.out⟩
end
end Go.Proofs.YtfbggmbmgohiiaaGreat.tb
