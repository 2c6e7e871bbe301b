/- Texts of this seat, one behind the other: TkC, TkD. No condition beyond theirs. -/
import Derived.Test.YtfbggmbmgohiiaaGreatK01
import Derived.Test.YtfbggmbmgohiiaaGreatK43
import Derived.Test.YtfbggmbmgohiiaaGreatK50
import Derived.Test.YtfbggmbmgohiiaaGreatK46
set_option linter.unusedSimpArgs false
set_option linter.unusedVariables false
set_option maxHeartbeats 40000000
set_option maxRecDepth 100000
namespace Go.Proofs.YtfbggmbmgohiiaaGreat.tb
open Go.RowKit mem rec tm names
def KnM (w:World) (mm:Nat) (iv:Value) (W:World):Prop:=∃ i:Nat,iv = .int .i64 i∧i ≤ 2∧mm = 2 - i∧Below w.heap.size w W
theorem set_box {w W:World} {b:Nat} (h:Below w.heap.size w W) (hb:w.heap.size ≤ b) (x:Array Value):Below w.heap.size w (W.setRow b x):=h.trans ((touch_setRow W b x).below (fun q e=>by omega) h.size)
theorem nil_cells {W:World} {g z:Nat} (hg:W.heap[g]? = some (.cells #[.pointer none,.pointer (some ⟨z,0,none⟩)] 34)) (hz:W.heap[z]? = some (.cells #[.bool false,.slice none 0 0] 74)):∀ i,i < 2→∃ q,∀ X,Below W.heap.size W X→NilO X q∧X.cell? ⟨g,i,none⟩ = some (.pointer q):=fun i hi=>by
 have hgl:=(Array.getElem?_eq_some_iff.1 hg).1
 have:i = 0∨i = 1:=by omega
 rcases this with rfl | rfl
 ·exact ⟨none,fun X hb=>⟨.inl rfl,(cell_of_blk ((hb.block g hgl).trans hg)).trans rfl⟩⟩
 ·exact ⟨some ⟨z,0,none⟩,fun X hb=>⟨(NilO.below (.inr ⟨z,rfl,hz⟩) hb),(cell_of_blk ((hb.block g hgl).trans hg)).trans rfl⟩⟩
theorem row_below {w W:World} {b:Nat} {x:List Value} {t:TypeId} (h:w.heap[b]? = some (.cells x.toArray t)) (hb:Below w.heap.size w W):W.rangeAt b 0 x:=row_rng ((hb.block b (Array.getElem?_eq_some_iff.1 h).1).trans h)
theorem lawKeeps {n:Nat} (w:World) (k v:Tm (n + 1)) (uk uv:Value) (hs:Bool) (hI:ItemsAt w w.heap.size n uk k.items) (hJ:ItemsAt w w.heap.size n uv v.items):Calls Tryz.prog 8 #[aggV k.f uk,aggV v.f uv,.bool hs] w (BPost true w):=by
 have HSh:=Lib.hid (fun W=>shown9 W)
 have HGr:=Lib.hid (fun (W:World) (hW:Below w.heap.size w W) g (hg:W.heap[g]? = some (.cells (nineL k.f uk ++ nineL v.f uv).toArray 24))=>Great W W.heap.size (.slice (some ⟨g,0,none⟩) 2 2) [k,v] 6000 (Nat.le_refl _) (by decide) (by decide) (two_items hg ((hI.below hW (Nat.le_refl _)).more hW.size) ((hJ.below hW (Nat.le_refl _)).more hW.size)))
 have HNd:greatS (n + 1) [k,v] 6000 = false→nodesT k ≤ 100000000∧nodesT v ≤ 100000000:=fun e=>by
  have h:=great_nodes e
  have e2:nodesL (n + 1) [k,v] = nodesT k + nodesT v:=by unfold nodesL nodesT;simp
  rw [e2] at h
  omega
 have HND:=Lib.hid HNd
 clear HNd
 have HRf:=Lib.hid (fun (W:World)=>ref18 (N:=n) 1 W)
 have HPd:=Lib.hid (fun (W:World)=>pid19 (N:=n) 1 W)
 have HNew:=Lib.hid (fun (W:World)=>l_new (N:=n) (w:=W) (Below.refl W.heap.size W))
 have HMk:=Lib.hid (fun (w0 W:World) (z:Nat) (h:LSt (N:=n) w0 z [] W)=>l_make1 h hs)
 have HLk:=Lib.hid (fun (hn:nodesT k ≤ 100000000) (w0:World) (hw0:Below w.heap.size w w0) (B:Nat) (hB:w0.heap.size ≤ B) (W:World) (hW:Below w0.heap.size w0 W) (hl:B ≤ W.heap.size) (h0:0 < W.heap.size)=>lendX (B0:=w0.heap.size) (lo:=B) W hB hl h0 (((hI.below hw0 (Nat.le_refl _)).more hw0.size).below hW (Nat.le_refl _)) hn)
 have HLv:=Lib.hid (fun (hn:nodesT v ≤ 100000000) (w0:World) (hw0:Below w.heap.size w w0) (B:Nat) (hB:w0.heap.size ≤ B) (W:World) (hW:Below w0.heap.size w0 W) (hl:B ≤ W.heap.size) (h0:0 < W.heap.size)=>lendX (B0:=w0.heap.size) (lo:=B) W hB hl h0 (((hJ.below hw0 (Nat.le_refl _)).more hw0.size).below hW (Nat.le_refl _)) hn)
 have HPt:=Lib.hid (fun (hn:nodesT k ≤ 100000000∧nodesT v ≤ 100000000) (w0:World) (B z:Nat) (Fx Fy:Nat→Prop) (ux uy:Value) (W:World) (h:KpS w0 B z (oneA hs []) k v uk uv Fx Fy ux uy W)=>h.put (one_sm (by simp)) hn.1 hn.2)
 have HKx:=Lib.hid (fun (w0:World) (B z:Nat) (A:List (TabA n)) (Fx Fy:Nat→Prop) (ux uy:Value) (W:World) (h:KpS w0 B z A k v uk uv Fx Fy ux uy W)=>h.keptx)
 have HKy:=Lib.hid (fun (w0:World) (B z:Nat) (A:List (TabA n)) (Fx Fy:Nat→Prop) (ux uy:Value) (W:World) (h:KpS w0 B z A k v uk uv Fx Fy ux uy W)=>h.kepty)
 have HVk:=Lib.hid (fun (hn:nodesT k ≤ 100000000) (W:World) (hW:Below w.heap.size w W)=>RValid W w.heap.size uk k hW.size (hI.below hW (Nat.le_refl _)) (by omega))
 have HVv:=Lib.hid (fun (hn:nodesT v ≤ 100000000) (W:World) (hW:Below w.heap.size w W)=>RValid W w.heap.size uv v hW.size (hJ.below hW (Nat.le_refl _)) (by omega))
 have HSx:=Lib.hid (fun (w0:World) (B z:Nat) (A:List (TabA n)) (Fx Fy:Nat→Prop) (ux uy:Value) (W:World) (h:KpS w0 B z A k v uk uv Fx Fy ux uy W)=>h.spoilx (f:=k.f))
 have HSy:=Lib.hid (fun (w0:World) (B z:Nat) (A:List (TabA n)) (Fx Fy:Nat→Prop) (uy:Value) (W:World) (h:KpY w0 B z A v uv Fx Fy uy W)=>h.spoily (f:=v.f))
 have HGe:=Lib.hid (fun (hk:validT k = true) (hn:nodesT k ≤ 100000000) (B z:Nat) (W:World) (h:StG B z (oneA hs [(k,v)]) W) (hW:Below w.heap.size w W)=>(show Calls Tryz.prog 32 #[.pointer (some ⟨z,0,none⟩),aggV (refT (N:=n) 1).f nilV,aggV k.f uk] W (fun e w'=>∃ F1 u,e = .returned (.tuple #[aggV v.f u,.bool true,.int .i64 0])∧Below W.heap.size W w'∧NewI W w' F1 n u v.items) from by
  have h1:=g_get h (one_sm (by simp)) hW.size (r:=refT 1) (ur:=nilV) ((flat_items W 0).more (Nat.zero_le _)) (hI.below hW (Nat.le_refl _)) hn
  rw [one_getX hs hk] at h1
  exact h1))
 have HFi:=Lib.hid (fun (B z:Nat) (W:World) (h:StG B z (oneA hs [(k,v)]) W)=>(show Calls Tryz.prog 39 #[.pointer (some ⟨z,0,none⟩),aggV (refT (N:=n) 1).f nilV] W (fun e w'=>∃ F1 F2 u1 u2,e = .returned (.tuple #[aggV k.f u1,aggV v.f u2,.bool true,.int .i64 0])∧Below W.heap.size W w'∧NewI W w' F1 n u1 k.items∧NewI W w' F2 n u2 v.items) from by
  have h1:=g_first h (one_sm (by simp)) (B2:=0) (Nat.zero_le _) (r:=refT 1) (ur:=nilV) (flat_items W 0)
  rw [one_firstX hs] at h1
  exact h1))
 have HSvv:=Lib.hid (fun (W:World) (hW:Below w.heap.size w W) (u:Value) (h:ItemsAt W W.heap.size n u v.items)=>(show Calls Tryz.prog 27 #[aggV v.f u,aggV v.f uv] W (BPost true W) from by
  have h1:=sameOne W W.heap.size u uv v v (Nat.le_refl _) h ((hJ.below hW (Nat.le_refl _)).more hW.size)
  rw [eqB_t rfl] at h1
  exact h1))
 have HSkk:=Lib.hid (fun (W:World) (hW:Below w.heap.size w W) (u:Value) (h:ItemsAt W W.heap.size n u k.items)=>(show Calls Tryz.prog 27 #[aggV k.f u,aggV k.f uk] W (BPost true W) from by
  have h1:=sameOne W W.heap.size u uk k k (Nat.le_refl _) h ((hI.below hW (Nat.le_refl _)).more hW.size)
  rw [eqB_t rfl] at h1
  exact h1))
 have HSpv:=Lib.hid (fun (wg W:World) (F:Nat→Prop) (u:Value) (h:NewI wg W F n u v.items) (h1:0 < wg.heap.size) (hb:Below wg.heap.size wg W)=>h.spoil (f:=v.f) (Nat.le_refl _) h1 hb)
 have HSp1:=Lib.hid (fun (wg W:World) (G:Nat→Prop) (u u2:Value) (h:TwoN wg G u2 W) (hp:PtrOK W G 0 u)=>h.spoil (f:=k.f) hp)
 have HSp2:=Lib.hid (fun (wg W:World) (G:Nat→Prop) (u2:Value) (h:TwoN wg G u2 W)=>h.spoil (f:=v.f) h.p2)
 have HpE:putE (oneA (N:=n) hs []) (refT 1) k v = if validT v && validT k then 0 else 2:=one_putE hs
 have HpA:validT k = true→validT v = true→putA (oneA (N:=n) hs []) (refT 1) k v = oneA hs [(k,v)]:=fun h1 h2=>one_putA hs h1 h2
 rw [HpE] at HPt
 have HPA:=Lib.hid HpA
 clear HpE HpA
 obtain ⟨pk,ck,ek,_,_⟩:=hI.shape
 obtain ⟨pv,cv,ev,_,_⟩:=hJ.shape
 unfold BPost at HSh HGr HKx HKy HVk HVv HSvv HSkk ⊢
 generalize greatS (n + 1) [k,v] 6000 = gr at *
 rw [ek] at HGr HGe HLk HVk HPt HKx HKy HSx HSkk ⊢
 rw [ev] at HGr HLv HVv HPt HKx HKy HSx HSy HSvv ⊢
 clear hI hJ ek ev
 have HN32:=Lib.hid (fun (X:World) (q:Option Addr) (h:NilO X q)=>get32N h (refT (N:=n) 1).f none 0 0 k.f pk k.items.length ck)
 have HN22:=Lib.hid (fun (X:World) (q:Option Addr) (h:NilO X q)=>del22N h (refT (N:=n) 1).f none 0 0 k.f pk k.items.length ck)
 have HN39:=Lib.hid (fun (X:World) (q:Option Addr) (h:NilO X q)=>first39N h (refT (N:=n) 1).f none 0 0)
 have HN40:=Lib.hid (fun (X:World) (q:Option Addr) (h:NilO X q)=>next40N h (refT (N:=n) 1).f none 0 0 k.f pk k.items.length ck)
 have HN31:=Lib.hid (fun (X:World) (q:Option Addr) (h:NilO X q)=>size31N h (refT (N:=n) 1).f none 0 0)
 have HN37:=Lib.hid (fun (X:World) (q:Option Addr) (h:NilO X q)=>own37N h (refT (N:=n) 1).f none 0 0)
 have HN17:=Lib.hid (fun (X:World) (q:Option Addr) (h:NilO X q)=>make17N h (refT (N:=n) 1).f none 0 0 (pidT (N:=n) 1).f none 0 0 hs)
 have HN24:=Lib.hid (fun (X:World) (q:Option Addr) (h:NilO X q)=>put24N h (refT (N:=n) 1).f none 0 0 k.f pk k.items.length ck v.f pv v.items.length cv)
 have HN41:=Lib.hid (fun (X:World) (q:Option Addr) (h:NilO X q)=>drop41N h (refT (N:=n) 1).f none 0 0)
 have HN33:=Lib.hid (fun (X:World) (q:Option Addr) (h:NilO X q)=>end33N h (pidT (N:=n) 1).f none 0 0)
 unfold nilV ErrP at *
 unfold LxP at HLk HLv
 unfold VQ at HRf HPd
 generalize aggV (refT (N:=n) 1).f (.slice none 0 0) = RV at *
 generalize aggV (pidT (N:=n) 1).f (.slice none 0 0) = PV at *
 generalize nodesT k = ndk at *
 generalize nodesT v = ndv at *
 generalize hvk:validT k = vlk at *
 generalize hvv:validT v = vlv at *
 clear hvk hvv
 generalize k.items.length = nk at *
 generalize v.items.length = nv at *
 generalize k.f = fk at *
 generalize v.f = fv at *
 obtain ⟨kk,ki,kg,kn,kf,ka,kb,kz⟩:=fk
 obtain ⟨vk,vi,vg,vn,vf,va,vb,vz⟩:=fv
 unfold aggV at *
 unfold nineL at HGr
 dsimp only at *
 simp only [List.cons_append,List.nil_append] at HGr
 have hsz9:(Tryz.prog.info? 24).map (·.size) = some 9:=by kernel_rfl
 obtain ⟨hb0,hz1,hz2⟩:=two_boxes w (.cells #[.int .i64 kk,.int .i64 ki,.int .i64 kg,.string kn,.string kf,.int .i64 ka,.slice pk nk ck,.string kb,.int .i64 kz] 24) (.cells #[.int .i64 vk,.int .i64 vi,.int .i64 vg,.string vn,.string vf,.int .i64 va,.slice pv nv cv,.string vb,.int .i64 vz] 24)
 have h1w:w.heap.size + 1 < ((w.alloc (.cells #[.int .i64 kk,.int .i64 ki,.int .i64 kg,.string kn,.string kf,.int .i64 ka,.slice pk nk ck,.string kb,.int .i64 kz] 24)).alloc (.cells #[.int .i64 vk,.int .i64 vi,.int .i64 vg,.string vn,.string vf,.int .i64 va,.slice pv nv cv,.string vb,.int .i64 vz] 24)).heap.size:=(Array.getElem?_eq_some_iff.1 hz2).1
 go_enter Tryz.func8,Tryz.ntmps8
 go_upto_region 1 with (fail)
 generalize ((w.alloc (.cells #[.int .i64 kk,.int .i64 ki,.int .i64 kg,.string kn,.string kf,.int .i64 ka,.slice pk nk ck,.string kb,.int .i64 kz] 24)).alloc (.cells #[.int .i64 vk,.int .i64 vi,.int .i64 vg,.string vn,.string vf,.int .i64 va,.slice pv nv cv,.string vb,.int .i64 vz] 24)) = w1 at *
 obtain ⟨b1,hb1e⟩:∃ b,w.heap.size = b:=⟨_,rfl⟩
 obtain ⟨b2,hb2e⟩:∃ b,w.heap.size + 1 = b:=⟨_,rfl⟩
 have hlt1:b1 < w1.heap.size:=by omega
 have hlt2:b2 < w1.heap.size:=by omega
 rw [hb2e] at hz2 ⊢
 rw [hb1e]
 have hz1:w1.heap[b1]? = some (.cells #[.int .i64 kk,.int .i64 ki,.int .i64 kg,.string kn,.string kf,.int .i64 ka,.slice pk nk ck,.string kb,.int .i64 kz] 24):=by rw [← hb1e];exact hz1
 have HB1e:=Lib.hid hb1e
 have HB0:=Lib.hid hb0
 have HZ1:=Lib.hid hz1
 have HZ2:=Lib.hid hz2
 clear hb1e hb2e hb0 hz1 hz2 h1w
 go_wp2_with fail
 refine (HSh.out _).mono ?_
 rintro e w2 ⟨rfl,hb2⟩
 have hb:=HB0.out.trans (hb2.mono HB0.out.size)
 have hz1:=(hb2.block _ hlt1).trans HZ1.out
 have hz2:=(hb2.block _ hlt2).trans HZ2.out
 clear HSh HB0 HZ1 HZ2
 have hl1:b1 < w2.heap.size:=Nat.lt_of_lt_of_le hlt1 hb2.size
 have hl2:b2 < w2.heap.size:=Nat.lt_of_lt_of_le hlt2 hb2.size
 clear hb2 hlt1 hlt2
 have hba:=belowA (Below.refl w2.heap.size w2) (.cells #[.int .i64 kk,.int .i64 ki,.int .i64 kg,.string kn,.string kf,.int .i64 ka,.slice pk nk ck,.string kb,.int .i64 kz,.int .i64 vk,.int .i64 vi,.int .i64 vg,.string vn,.string vf,.int .i64 va,.slice pv nv cv,.string vb,.int .i64 vz] 24) (Nat.le_refl _)
 have HGc:=Lib.hid (HGr.out _ (hb.trans (hba.mono hb.size)) _ (alloc_new w2 (.cells #[.int .i64 kk,.int .i64 ki,.int .i64 kg,.string kn,.string kf,.int .i64 ka,.slice pk nk ck,.string kb,.int .i64 kz,.int .i64 vk,.int .i64 vi,.int .i64 vg,.string vn,.string vf,.int .i64 va,.slice pv nv cv,.string vb,.int .i64 vz] 24)))
 have HL1:=Lib.hid (row_rng (x:=[.int .i64 kk,.int .i64 ki,.int .i64 kg,.string kn,.string kf,.int .i64 ka,.slice pk nk ck,.string kb,.int .i64 kz]) hz1)
 have HL2:=Lib.hid (row_rng (x:=[.int .i64 vk,.int .i64 vi,.int .i64 vg,.string vn,.string vf,.int .i64 va,.slice pv nv cv,.string vb,.int .i64 vz]) hz2)
 have HB3:=Lib.hid (hb.trans (hba.mono hb.size))
 have HZ1:=Lib.hid ((hba.block _ hl1).trans hz1)
 have HZ2:=Lib.hid ((hba.block _ hl2).trans hz2)
 have HS2:=Lib.hid hba.size
 clear hb hz1 hz2 hba HGr
 go_wp2_with (first
  | (refine wpList_load_mid rfl 24 (.tmp 3) rfl b1 0 rfl [.int .i64 kk,.int .i64 ki,.int .i64 kg,.string kn,.string kf,.int .i64 ka,.slice pk nk ck,.string kb,.int .i64 kz] _ HL1.out Tryz.underlying24 rfl hsz9 ?_)
  | (refine wpList_load_mid rfl 24 (.tmp 4) rfl b2 0 rfl [.int .i64 vk,.int .i64 vi,.int .i64 vg,.string vn,.string vf,.int .i64 va,.slice pv nv cv,.string vb,.int .i64 vz] _ HL2.out Tryz.underlying24 rfl hsz9 ?_))
 refine HGc.out.mono ?_
 rintro e w4 ⟨rfl,hb4⟩
 clear HGc HL1 HL2
 have hb:=HB3.out.trans (hb4.mono HB3.out.size)
 have hlt1:b1 < w4.heap.size:=by have:=HS2.out;have:=hb4.size;omega
 have hlt2:b2 < w4.heap.size:=by have:=HS2.out;have:=hb4.size;omega
 have hz1:=(hb4.block _ (Array.getElem?_eq_some_iff.1 HZ1.out).1).trans HZ1.out
 have hz2:=(hb4.block _ (Array.getElem?_eq_some_iff.1 HZ2.out).1).trans HZ2.out
 have HB4:=Lib.hid hb
 clear HB3 HZ1 HZ2 HS2 hb4 hl1 hl2 hb
 cases gr
 case true =>
  go_wp2_with fail
  go_ret
  exact ⟨rfl,HB4.out⟩
 case false =>
 have hnd:=HND.out rfl
 have HLk2:=Lib.hid (HLk.out hnd.1)
 have HLv2:=Lib.hid (HLv.out hnd.2)
 have HPt2:=Lib.hid (HPt.out hnd)
 have HVk2:=Lib.hid (HVk.out hnd.1)
 have HVv2:=Lib.hid (HVv.out hnd.2)
 have HGe2:=Lib.hid (fun hk=>HGe.out hk hnd.1)
 clear HLk HLv HPt HVk HVv HGe hnd HND
 obtain ⟨hb5,hz5,hg5⟩:=two_boxes w4 (.cells #[.bool false,.slice none 0 0] 74) (.cells #[.pointer none,.pointer (some ⟨w4.heap.size,0,none⟩)] 34)
 have hz1:=(hb5.block _ hlt1).trans hz1
 have hz2:=(hb5.block _ hlt2).trans hz2
 have HQ:=Lib.hid (nil_cells hg5 hz5)
 have HB5:=Lib.hid (HB4.out.trans (hb5.mono HB4.out.size))
 have hlt1:=Nat.lt_of_lt_of_le hlt1 hb5.size
 have hlt2:=Nat.lt_of_lt_of_le hlt2 hb5.size
 clear hb5 hz5 hg5 HB4
 go_upto_region 6 with (fail)
 generalize ((w4.alloc (.cells #[.bool false,.slice none 0 0] 74)).alloc (.cells #[.pointer none,.pointer (some ⟨w4.heap.size,0,none⟩)] 34)) = w5 at *
 have HF:=Lib.hid (fun W (hW:Below w5.heap.size w5 W)=>And.intro (row_below (x:=[.int .i64 kk,.int .i64 ki,.int .i64 kg,.string kn,.string kf,.int .i64 ka,.slice pk nk ck,.string kb,.int .i64 kz]) hz1 hW) (row_below (x:=[.int .i64 vk,.int .i64 vi,.int .i64 vg,.string vn,.string vf,.int .i64 va,.slice pv nv cv,.string vb,.int .i64 vz]) hz2 hW))
 have h0w:0 < w5.heap.size:=by omega
 clear hz1 hz2 hlt1 hlt2
 have H5:Hid (KnM w5 2 (.int .i64 0) w5):=Lib.hid ⟨0,rfl,by omega,rfl,Below.refl _ _⟩
 go_wp2_with fail
 go_loopg [8] 2 (fun mm iv wr=>Hid (KnM w5 mm iv wr))
 case atStart=>exact H5
 case round =>
  obtain ⟨i,rfl,hi,hm,hbX⟩:=hrel.out
  clear hrel H5
  have HM:=Lib.hid hm
  clear hm
  by_cases hlt:i < 2
  ·obtain ⟨q,hq⟩:=HQ.out i hlt
   have HNo:=Lib.hid (fun W hW=>(hq W hW).1)
   have k1:=(hq wr hbX).2
   have r1:(i:Int) < 2:=by omega
   have hw1:IntKind.i64.wrap ((i:Int) + 1) = (i:Int) + 1:=IntWalk.i64_in _ (by omega)
   clear hq
   go_upto_region 10 with (fail)
   clear k1
   go_cut [10,11,12] from 61 to 69 (fun s10 s11 s12 wc=>s11 = .bool false∧s12 = .int .i64 1∧Below w5.heap.size w5 wc)
   case first=>as_aux_lemma =>
    replace hbX:=hbX.trans ((belowD (Below.refl wr.heap.size wr)).mono hbX.size)
    refine wp_region_held_drew (S:=(fun w'=>w'.rangeAt b1 0 [.int .i64 kk,.int .i64 ki,.int .i64 kg,.string kn,.string kf,.int .i64 ka,.slice pk nk ck,.string kb,.int .i64 kz])) (by kernel_rfl) ?_ (fun hHeld=>?_)
    ·exact (HF.out _ hbX).1
    generalize wr.drew = wd at *
    refine run_in [0,2] ?_
    (refine run_e rfl (by kernel_rfl) (by rfl) (fun _ _ _ _ h=>h) (by assumption) ?_;apply Exists.intro;refine And.intro (fun w hSw=>?_) ?_;(focus (try dsimp only at hSw);go_simp;(try with_reducible rfl));(try simp only [Act.put,pA,pB,pC]))
    refine run_r rfl (by kernel_rfl) (fun _ _ _ _ h=>h) (by assumption) (yieldsIf_load_mid (by rfl) 24 (.tmp 3) rfl b1 0 rfl [.int .i64 kk,.int .i64 ki,.int .i64 kg,.string kn,.string kf,.int .i64 ka,.slice pk nk ck,.string kb,.int .i64 kz] _ (fun w hs=>hs) Tryz.underlying24 rfl hsz9) ?_
    (try simp only [Act.put,pA,pB,pC])
    refine run_out ?_
    refine wpAnyH_ready (rs:=[1,8]) (by kernel_rfl) (by simp) ?_
    refine (readyR rfl (fun K hK=>?_) (readyR rfl (fun K hK=>?_) AllReadyH.nil))
    ·go_simp
     refine (HRf.out _).mono ?_
     rintro e y1 ⟨rfl,hb⟩
     replace hbX:=hbX.trans (hb.mono hbX.size)
     clear hb
     go_wp2_with fail
     refine hK.out _ _ ?_ (fun hHeld=>?_)
     ·exact (HF.out _ hbX).1
     clear hK K
     (try simp only [Act.put,pA,pB,pC])
     refine wpAnyH_ready (rs:=[3,8]) (by kernel_rfl) (by simp) ?_
     refine (readyR rfl (fun K hK=>?_) (readyR rfl (fun K hK=>?_) AllReadyH.nil))
     ·go_simp
      refine (HN32.out _ _ (HNo.out _ hbX)).mono ?_
      rintro e y2 ⟨rfl,hb⟩
      replace hbX:=hbX.trans (hb.mono hbX.size)
      clear hb
      go_wp2_with fail
      refine hK.out _ _ ?_ (fun hHeld=>?_)
      ·exact (HF.out _ hbX).1
      clear hK K
      (try simp only [Act.put,pA,pB,pC])
      refine run_in [4,5,6,7] ?_
      iterate 4 (refine run_e rfl (by kernel_rfl) (by rfl) (fun _ _ _ _ h=>h) (by assumption) ?_;apply Exists.intro;refine And.intro (fun w hSw=>?_) ?_;(focus (try dsimp only at hSw);go_simp;(try with_reducible rfl));(try simp only [Act.put,pA,pB,pC]))
      refine run_out ?_
      refine wpAnyH_ready (rs:=[8]) (by kernel_rfl) (by simp) ?_
      refine (readyR rfl (fun K hK=>?_) AllReadyH.nil)
      obtain ⟨c1,xa,hc,hw,hb,hZ1,hlo1⟩:=nbox hbX (.cells #[.int .i64 0,.int .i64 0,.int .i64 0,.string ⟨#[]⟩,.string ⟨#[]⟩,.int .i64 0,.slice none 0 0,.string ⟨#[]⟩,.int .i64 0] 24)
      go_simp
      (try rw [hw])
      (try rw [hc])
      replace hbX:=hbX.trans (hb.mono hbX.size)
      clear hb hw hc
      refine hK.out _ _ ?_ (fun hHeld=>?_)
      ·exact (HF.out _ hbX).1
      clear hK K
      (try simp only [Act.put,pA,pB,pC])
      refine wpAnyH_ready (rs:=[9]) (by kernel_rfl) (by simp) ?_
      refine (readyR rfl (fun K hK=>?_) AllReadyH.nil)
      obtain ⟨xs,hw,hT,hbN,hZN,hoth⟩:=nset hbX hlo1 #[.int .i64 0,.int .i64 0,.int .i64 0,.string ⟨#[]⟩,.string ⟨#[]⟩,.int .i64 0,.slice none 0 0,.string ⟨#[]⟩,.int .i64 0] hZ1
      refine step_store_run (by rfl) 24 (.tmp 10) (.tmp 66) rfl (p:=⟨_,0,none⟩) rfl rfl (run_storeVar_row _ _ 24 24 _ #[.int .i64 0,.int .i64 0,.int .i64 0,.string ⟨#[]⟩,.string ⟨#[]⟩,.int .i64 0,.slice none 0 0,.string ⟨#[]⟩,.int .i64 0] hZ1 hsz9 rfl zoneA) ?_
      (try rw [hw])
      clear hbX hZ1 hw hT hoth
      have hbX:=hbN
      have hZ1:=hZN
      clear hbN hZN
      refine hK.out _ _ ?_ (fun hHeld=>?_)
      ·exact (HF.out _ hbX).1
      clear hK K
      (try simp only [Act.put,pA,pB,pC])
      refine run_in [10,11] ?_
      iterate 2 (refine run_e rfl (by kernel_rfl) (by rfl) (fun _ _ _ _ h=>h) (by assumption) ?_;apply Exists.intro;refine And.intro (fun w hSw=>?_) ?_;(focus (try dsimp only at hSw);go_simp;(try with_reducible rfl));(try simp only [Act.put,pA,pB,pC]))
      refine run_out ?_
      refine wpAnyH_done (by kernel_rfl) ?_ _
      go_wp2_with fail
      go_meet
      exact ⟨rfl,rfl,hbX⟩
     ·obtain ⟨c1,xa,hc,hw,hb,hZ1,hlo1⟩:=nbox hbX (.cells #[.int .i64 0,.int .i64 0,.int .i64 0,.string ⟨#[]⟩,.string ⟨#[]⟩,.int .i64 0,.slice none 0 0,.string ⟨#[]⟩,.int .i64 0] 24)
      go_simp
      (try rw [hw])
      (try rw [hc])
      replace hbX:=hbX.trans (hb.mono hbX.size)
      clear hb hw hc
      refine hK.out _ _ ?_ (fun hHeld=>?_)
      ·exact (HF.out _ hbX).1
      clear hK K
      (try simp only [Act.put,pA,pB,pC])
      refine wpAnyH_ready (rs:=[3]) (by kernel_rfl) (by simp) ?_
      refine (readyR rfl (fun K hK=>?_) AllReadyH.nil)
      go_simp
      refine (HN32.out _ _ (HNo.out _ hbX)).mono ?_
      rintro e y2 ⟨rfl,hb⟩
      replace hZ1:=(hb.block _ (Array.getElem?_eq_some_iff.1 hZ1).1).trans hZ1
      replace hbX:=hbX.trans (hb.mono hbX.size)
      clear hb
      go_wp2_with fail
      refine hK.out _ _ ?_ (fun hHeld=>?_)
      ·exact (HF.out _ hbX).1
      clear hK K
      (try simp only [Act.put,pA,pB,pC])
      refine run_in [4,5,6,7] ?_
      iterate 4 (refine run_e rfl (by kernel_rfl) (by rfl) (fun _ _ _ _ h=>h) (by assumption) ?_;apply Exists.intro;refine And.intro (fun w hSw=>?_) ?_;(focus (try dsimp only at hSw);go_simp;(try with_reducible rfl));(try simp only [Act.put,pA,pB,pC]))
      refine run_out ?_
      refine wpAnyH_ready (rs:=[9]) (by kernel_rfl) (by simp) ?_
      refine (readyR rfl (fun K hK=>?_) AllReadyH.nil)
      obtain ⟨xs,hw,hT,hbN,hZN,hoth⟩:=nset hbX hlo1 #[.int .i64 0,.int .i64 0,.int .i64 0,.string ⟨#[]⟩,.string ⟨#[]⟩,.int .i64 0,.slice none 0 0,.string ⟨#[]⟩,.int .i64 0] hZ1
      refine step_store_run (by rfl) 24 (.tmp 10) (.tmp 66) rfl (p:=⟨_,0,none⟩) rfl rfl (run_storeVar_row _ _ 24 24 _ #[.int .i64 0,.int .i64 0,.int .i64 0,.string ⟨#[]⟩,.string ⟨#[]⟩,.int .i64 0,.slice none 0 0,.string ⟨#[]⟩,.int .i64 0] hZ1 hsz9 rfl zoneA) ?_
      (try rw [hw])
      clear hbX hZ1 hw hT hoth
      have hbX:=hbN
      have hZ1:=hZN
      clear hbN hZN
      refine hK.out _ _ ?_ (fun hHeld=>?_)
      ·exact (HF.out _ hbX).1
      clear hK K
      (try simp only [Act.put,pA,pB,pC])
      refine run_in [10,11] ?_
      iterate 2 (refine run_e rfl (by kernel_rfl) (by rfl) (fun _ _ _ _ h=>h) (by assumption) ?_;apply Exists.intro;refine And.intro (fun w hSw=>?_) ?_;(focus (try dsimp only at hSw);go_simp;(try with_reducible rfl));(try simp only [Act.put,pA,pB,pC]))
      refine run_out ?_
      refine wpAnyH_done (by kernel_rfl) ?_ _
      go_wp2_with fail
      go_meet
      exact ⟨rfl,rfl,hbX⟩
    ·obtain ⟨c1,xa,hc,hw,hb,hZ1,hlo1⟩:=nbox hbX (.cells #[.int .i64 0,.int .i64 0,.int .i64 0,.string ⟨#[]⟩,.string ⟨#[]⟩,.int .i64 0,.slice none 0 0,.string ⟨#[]⟩,.int .i64 0] 24)
     go_simp
     (try rw [hw])
     (try rw [hc])
     replace hbX:=hbX.trans (hb.mono hbX.size)
     clear hb hw hc
     refine hK.out _ _ ?_ (fun hHeld=>?_)
     ·exact (HF.out _ hbX).1
     clear hK K
     (try simp only [Act.put,pA,pB,pC])
     refine wpAnyH_ready (rs:=[1]) (by kernel_rfl) (by simp) ?_
     refine (readyR rfl (fun K hK=>?_) AllReadyH.nil)
     go_simp
     refine (HRf.out _).mono ?_
     rintro e y1 ⟨rfl,hb⟩
     replace hZ1:=(hb.block _ (Array.getElem?_eq_some_iff.1 hZ1).1).trans hZ1
     replace hbX:=hbX.trans (hb.mono hbX.size)
     clear hb
     go_wp2_with fail
     refine hK.out _ _ ?_ (fun hHeld=>?_)
     ·exact (HF.out _ hbX).1
     clear hK K
     (try simp only [Act.put,pA,pB,pC])
     refine wpAnyH_ready (rs:=[3]) (by kernel_rfl) (by simp) ?_
     refine (readyR rfl (fun K hK=>?_) AllReadyH.nil)
     go_simp
     refine (HN32.out _ _ (HNo.out _ hbX)).mono ?_
     rintro e y2 ⟨rfl,hb⟩
     replace hZ1:=(hb.block _ (Array.getElem?_eq_some_iff.1 hZ1).1).trans hZ1
     replace hbX:=hbX.trans (hb.mono hbX.size)
     clear hb
     go_wp2_with fail
     refine hK.out _ _ ?_ (fun hHeld=>?_)
     ·exact (HF.out _ hbX).1
     clear hK K
     (try simp only [Act.put,pA,pB,pC])
     refine run_in [4,5,6,7] ?_
     iterate 4 (refine run_e rfl (by kernel_rfl) (by rfl) (fun _ _ _ _ h=>h) (by assumption) ?_;apply Exists.intro;refine And.intro (fun w hSw=>?_) ?_;(focus (try dsimp only at hSw);go_simp;(try with_reducible rfl));(try simp only [Act.put,pA,pB,pC]))
     refine run_out ?_
     refine wpAnyH_ready (rs:=[9]) (by kernel_rfl) (by simp) ?_
     refine (readyR rfl (fun K hK=>?_) AllReadyH.nil)
     obtain ⟨xs,hw,hT,hbN,hZN,hoth⟩:=nset hbX hlo1 #[.int .i64 0,.int .i64 0,.int .i64 0,.string ⟨#[]⟩,.string ⟨#[]⟩,.int .i64 0,.slice none 0 0,.string ⟨#[]⟩,.int .i64 0] hZ1
     refine step_store_run (by rfl) 24 (.tmp 10) (.tmp 66) rfl (p:=⟨_,0,none⟩) rfl rfl (run_storeVar_row _ _ 24 24 _ #[.int .i64 0,.int .i64 0,.int .i64 0,.string ⟨#[]⟩,.string ⟨#[]⟩,.int .i64 0,.slice none 0 0,.string ⟨#[]⟩,.int .i64 0] hZ1 hsz9 rfl zoneA) ?_
     (try rw [hw])
     clear hbX hZ1 hw hT hoth
     have hbX:=hbN
     have hZ1:=hZN
     clear hbN hZN
     refine hK.out _ _ ?_ (fun hHeld=>?_)
     ·exact (HF.out _ hbX).1
     clear hK K
     (try simp only [Act.put,pA,pB,pC])
     refine run_in [10,11] ?_
     iterate 2 (refine run_e rfl (by kernel_rfl) (by rfl) (fun _ _ _ _ h=>h) (by assumption) ?_;apply Exists.intro;refine And.intro (fun w hSw=>?_) ?_;(focus (try dsimp only at hSw);go_simp;(try with_reducible rfl));(try simp only [Act.put,pA,pB,pC]))
     refine run_out ?_
     refine wpAnyH_done (by kernel_rfl) ?_ _
     go_wp2_with fail
     go_meet
     exact ⟨rfl,rfl,hbX⟩
   case rest =>
   obtain ⟨rfl,rfl,hbX⟩:=hcut
   go_upto_region 11 with (fail)
   replace hbX:=hbX.trans ((belowD (Below.refl wc.heap.size wc)).mono hbX.size)
   refine wp_region_held_drew (S:=(fun w'=>w'.rangeAt b1 0 [.int .i64 kk,.int .i64 ki,.int .i64 kg,.string kn,.string kf,.int .i64 ka,.slice pk nk ck,.string kb,.int .i64 kz])) (by kernel_rfl) ?_ (fun hHeld=>?_)
   ·exact (HF.out _ hbX).1
   generalize wc.drew = wd at *
   refine run_in [0,2] ?_
   (refine run_e rfl (by kernel_rfl) (by rfl) (fun _ _ _ _ h=>h) (by assumption) ?_;apply Exists.intro;refine And.intro (fun w hSw=>?_) ?_;(focus (try dsimp only at hSw);go_simp;(try with_reducible rfl));(try simp only [Act.put,pA,pB,pC]))
   refine run_r rfl (by kernel_rfl) (fun _ _ _ _ h=>h) (by assumption) (yieldsIf_load_mid (by rfl) 24 (.tmp 3) rfl b1 0 rfl [.int .i64 kk,.int .i64 ki,.int .i64 kg,.string kn,.string kf,.int .i64 ka,.slice pk nk ck,.string kb,.int .i64 kz] _ (fun w hs=>hs) Tryz.underlying24 rfl hsz9) ?_
   (try simp only [Act.put,pA,pB,pC])
   refine run_out ?_
   refine wpAnyH_ready (rs:=[1]) (by kernel_rfl) (by simp) ?_
   refine (readyR rfl (fun K hK=>?_) AllReadyH.nil)
   go_simp
   refine (HRf.out _).mono ?_
   rintro e y1 ⟨rfl,hb⟩
   replace hbX:=hbX.trans (hb.mono hbX.size)
   clear hb
   go_wp2_with fail
   refine hK.out _ _ ?_ (fun hHeld=>?_)
   ·exact (HF.out _ hbX).1
   clear hK K
   (try simp only [Act.put,pA,pB,pC])
   refine wpAnyH_ready (rs:=[3]) (by kernel_rfl) (by simp) ?_
   refine (readyR rfl (fun K hK=>?_) AllReadyH.nil)
   go_simp
   refine (HN22.out _ _ (HNo.out _ hbX)).mono ?_
   rintro e y2 ⟨rfl,hb⟩
   replace hbX:=hbX.trans (hb.mono hbX.size)
   clear hb
   go_wp2_with fail
   refine hK.out _ _ ?_ (fun hHeld=>?_)
   ·exact (HF.out _ hbX).1
   clear hK K
   (try simp only [Act.put,pA,pB,pC])
   refine run_in [4,5,6,7,8] ?_
   iterate 5 (refine run_e rfl (by kernel_rfl) (by rfl) (fun _ _ _ _ h=>h) (by assumption) ?_;apply Exists.intro;refine And.intro (fun w hSw=>?_) ?_;(focus (try dsimp only at hSw);go_simp;(try with_reducible rfl));(try simp only [Act.put,pA,pB,pC]))
   refine run_out ?_
   refine wpAnyH_done (by kernel_rfl) ?_ _
   go_wp2_with fail
   refine (HRf.out _).mono ?_
   rintro e x1 ⟨rfl,hb⟩
   replace hbX:=hbX.trans (hb.mono hbX.size)
   clear hb
   go_wp2_with fail
   refine (HN39.out _ _ (HNo.out _ hbX)).mono ?_
   rintro e x2 ⟨rfl,hb⟩
   replace hbX:=hbX.trans (hb.mono hbX.size)
   clear hb
   obtain ⟨hb2,hza,hzb⟩:=two_boxes x2 (.cells #[.int .i64 0,.int .i64 0,.int .i64 0,.string ⟨#[]⟩,.string ⟨#[]⟩,.int .i64 0,.slice none 0 0,.string ⟨#[]⟩,.int .i64 0] 24) (.cells #[.int .i64 0,.int .i64 0,.int .i64 0,.string ⟨#[]⟩,.string ⟨#[]⟩,.int .i64 0,.slice none 0 0,.string ⟨#[]⟩,.int .i64 0] 24)
   have HZa:=Lib.hid hza
   have HZb:=Lib.hid ((setRow_other _ x2.heap.size (x2.heap.size + 1) #[.int .i64 0,.int .i64 0,.int .i64 0,.string ⟨#[]⟩,.string ⟨#[]⟩,.int .i64 0,.slice none 0 0,.string ⟨#[]⟩,.int .i64 0] (by omega)).trans hzb)
   have hlx:=hbX.size
   replace hbX:=set_box (set_box (hbX.trans (hb2.mono hbX.size)) hlx #[.int .i64 0,.int .i64 0,.int .i64 0,.string ⟨#[]⟩,.string ⟨#[]⟩,.int .i64 0,.slice none 0 0,.string ⟨#[]⟩,.int .i64 0]) (Nat.le_succ_of_le hlx) #[.int .i64 0,.int .i64 0,.int .i64 0,.string ⟨#[]⟩,.string ⟨#[]⟩,.int .i64 0,.slice none 0 0,.string ⟨#[]⟩,.int .i64 0]
   clear hb2 hza hzb hlx
   go_upto_region 13 with (first
    | (refine wpList_store_row rfl 24 (.tmp 15) (.tmp 80) rfl x2.heap.size #[.int .i64 0,.int .i64 0,.int .i64 0,.string ⟨#[]⟩,.string ⟨#[]⟩,.int .i64 0,.slice none 0 0,.string ⟨#[]⟩,.int .i64 0] rfl rfl 24 _ HZa.out hsz9 rfl zoneA ?_)
    | (refine wpList_store_row rfl 24 (.tmp 16) (.tmp 81) rfl (x2.heap.size + 1) #[.int .i64 0,.int .i64 0,.int .i64 0,.string ⟨#[]⟩,.string ⟨#[]⟩,.int .i64 0,.slice none 0 0,.string ⟨#[]⟩,.int .i64 0] rfl rfl 24 _ HZb.out hsz9 rfl zoneA ?_))
   clear HZa HZb
   generalize ((((x2.alloc (.cells #[.int .i64 0,.int .i64 0,.int .i64 0,.string ⟨#[]⟩,.string ⟨#[]⟩,.int .i64 0,.slice none 0 0,.string ⟨#[]⟩,.int .i64 0] 24)).alloc (.cells #[.int .i64 0,.int .i64 0,.int .i64 0,.string ⟨#[]⟩,.string ⟨#[]⟩,.int .i64 0,.slice none 0 0,.string ⟨#[]⟩,.int .i64 0] 24)).setRow x2.heap.size #[.int .i64 0,.int .i64 0,.int .i64 0,.string ⟨#[]⟩,.string ⟨#[]⟩,.int .i64 0,.slice none 0 0,.string ⟨#[]⟩,.int .i64 0]).setRow (x2.heap.size + 1) #[.int .i64 0,.int .i64 0,.int .i64 0,.string ⟨#[]⟩,.string ⟨#[]⟩,.int .i64 0,.slice none 0 0,.string ⟨#[]⟩,.int .i64 0]) = x3 at *
   go_cut [19,20,21,22] from 84 to 93 (fun s19 s20 s21 s22 wc=>s21 = .bool false∧s22 = .int .i64 1∧Below w5.heap.size w5 wc)
   case first=>as_aux_lemma =>
    replace hbX:=hbX.trans ((belowD (Below.refl x3.heap.size x3)).mono hbX.size)
    refine wp_region_held_drew (S:=(fun w'=>w'.rangeAt b1 0 [.int .i64 kk,.int .i64 ki,.int .i64 kg,.string kn,.string kf,.int .i64 ka,.slice pk nk ck,.string kb,.int .i64 kz])) (by kernel_rfl) ?_ (fun hHeld=>?_)
    ·exact (HF.out _ hbX).1
    generalize x3.drew = wd at *
    refine run_in [0,2] ?_
    (refine run_e rfl (by kernel_rfl) (by rfl) (fun _ _ _ _ h=>h) (by assumption) ?_;apply Exists.intro;refine And.intro (fun w hSw=>?_) ?_;(focus (try dsimp only at hSw);go_simp;(try with_reducible rfl));(try simp only [Act.put,pA,pB,pC]))
    refine run_r rfl (by kernel_rfl) (fun _ _ _ _ h=>h) (by assumption) (yieldsIf_load_mid (by rfl) 24 (.tmp 3) rfl b1 0 rfl [.int .i64 kk,.int .i64 ki,.int .i64 kg,.string kn,.string kf,.int .i64 ka,.slice pk nk ck,.string kb,.int .i64 kz] _ (fun w hs=>hs) Tryz.underlying24 rfl hsz9) ?_
    (try simp only [Act.put,pA,pB,pC])
    refine run_out ?_
    refine wpAnyH_ready (rs:=[1,9,10]) (by kernel_rfl) (by simp) ?_
    refine (readyR rfl (fun K hK=>?_) (readyR rfl (fun K hK=>?_) (readyR rfl (fun K hK=>?_) AllReadyH.nil)))
    ·go_simp
     refine (HRf.out _).mono ?_
     rintro e y1 ⟨rfl,hb⟩
     replace hbX:=hbX.trans (hb.mono hbX.size)
     clear hb
     go_wp2_with fail
     refine hK.out _ _ ?_ (fun hHeld=>?_)
     ·exact (HF.out _ hbX).1
     clear hK K
     (try simp only [Act.put,pA,pB,pC])
     refine wpAnyH_ready (rs:=[3,9,10]) (by kernel_rfl) (by simp) ?_
     refine (readyR rfl (fun K hK=>?_) (readyR rfl (fun K hK=>?_) (readyR rfl (fun K hK=>?_) AllReadyH.nil)))
     ·go_simp
      refine (HN40.out _ _ (HNo.out _ hbX)).mono ?_
      rintro e y2 ⟨rfl,hb⟩
      replace hbX:=hbX.trans (hb.mono hbX.size)
      clear hb
      go_wp2_with fail
      refine hK.out _ _ ?_ (fun hHeld=>?_)
      ·exact (HF.out _ hbX).1
      clear hK K
      (try simp only [Act.put,pA,pB,pC])
      refine run_in [4,5,6,7,8] ?_
      iterate 5 (refine run_e rfl (by kernel_rfl) (by rfl) (fun _ _ _ _ h=>h) (by assumption) ?_;apply Exists.intro;refine And.intro (fun w hSw=>?_) ?_;(focus (try dsimp only at hSw);go_simp;(try with_reducible rfl));(try simp only [Act.put,pA,pB,pC]))
      refine run_out ?_
      refine wpAnyH_ready (rs:=[9,10]) (by kernel_rfl) (by simp) ?_
      refine (readyR rfl (fun K hK=>?_) (readyR rfl (fun K hK=>?_) AllReadyH.nil))
      ·obtain ⟨c1,xa,hc,hw,hb,hZ1,hlo1⟩:=nbox hbX (.cells #[.int .i64 0,.int .i64 0,.int .i64 0,.string ⟨#[]⟩,.string ⟨#[]⟩,.int .i64 0,.slice none 0 0,.string ⟨#[]⟩,.int .i64 0] 24)
       go_simp
       (try rw [hw])
       (try rw [hc])
       replace hbX:=hbX.trans (hb.mono hbX.size)
       clear hb hw hc
       refine hK.out _ _ ?_ (fun hHeld=>?_)
       ·exact (HF.out _ hbX).1
       clear hK K
       (try simp only [Act.put,pA,pB,pC])
       refine wpAnyH_ready (rs:=[10]) (by kernel_rfl) (by simp) ?_
       refine (readyR rfl (fun K hK=>?_) AllReadyH.nil)
       obtain ⟨c2,xa,hc,hw,hb,hZ2,hlo2⟩:=nbox hbX (.cells #[.int .i64 0,.int .i64 0,.int .i64 0,.string ⟨#[]⟩,.string ⟨#[]⟩,.int .i64 0,.slice none 0 0,.string ⟨#[]⟩,.int .i64 0] 24)
       go_simp
       (try rw [hw])
       (try rw [hc])
       have hnz:c1 ≠ c2:=by have:=(Array.getElem?_eq_some_iff.1 hZ1).1;omega
       replace hZ1:=(hb.block _ (Array.getElem?_eq_some_iff.1 hZ1).1).trans hZ1
       replace hbX:=hbX.trans (hb.mono hbX.size)
       clear hb hw hc
       refine hK.out _ _ ?_ (fun hHeld=>?_)
       ·exact (HF.out _ hbX).1
       clear hK K
       (try simp only [Act.put,pA,pB,pC])
       refine wpAnyH_ready (rs:=[11]) (by kernel_rfl) (by simp) ?_
       refine (readyR rfl (fun K hK=>?_) AllReadyH.nil)
       obtain ⟨xs,hw,hT,hbN,hZN,hoth⟩:=nset hbX hlo1 #[.int .i64 0,.int .i64 0,.int .i64 0,.string ⟨#[]⟩,.string ⟨#[]⟩,.int .i64 0,.slice none 0 0,.string ⟨#[]⟩,.int .i64 0] hZ1
       refine step_store_run (by rfl) 24 (.tmp 19) (.tmp 89) rfl (p:=⟨_,0,none⟩) rfl rfl (run_storeVar_row _ _ 24 24 _ #[.int .i64 0,.int .i64 0,.int .i64 0,.string ⟨#[]⟩,.string ⟨#[]⟩,.int .i64 0,.slice none 0 0,.string ⟨#[]⟩,.int .i64 0] hZ1 hsz9 rfl zoneA) ?_
       (try rw [hw])
       replace hZ2:=(hoth c2 (Ne.symm hnz)).trans hZ2
       clear hbX hZ1 hw hT hoth
       have hbX:=hbN
       have hZ1:=hZN
       clear hbN hZN
       refine hK.out _ _ ?_ (fun hHeld=>?_)
       ·exact (HF.out _ hbX).1
       clear hK K
       (try simp only [Act.put,pA,pB,pC])
       refine wpAnyH_ready (rs:=[12]) (by kernel_rfl) (by simp) ?_
       refine (readyR rfl (fun K hK=>?_) AllReadyH.nil)
       obtain ⟨xs,hw,hT,hbN,hZN,hoth⟩:=nset hbX hlo2 #[.int .i64 0,.int .i64 0,.int .i64 0,.string ⟨#[]⟩,.string ⟨#[]⟩,.int .i64 0,.slice none 0 0,.string ⟨#[]⟩,.int .i64 0] hZ2
       refine step_store_run (by rfl) 24 (.tmp 20) (.tmp 90) rfl (p:=⟨_,0,none⟩) rfl rfl (run_storeVar_row _ _ 24 24 _ #[.int .i64 0,.int .i64 0,.int .i64 0,.string ⟨#[]⟩,.string ⟨#[]⟩,.int .i64 0,.slice none 0 0,.string ⟨#[]⟩,.int .i64 0] hZ2 hsz9 rfl zoneA) ?_
       (try rw [hw])
       clear hbX hZ2 hw hT hoth
       have hbX:=hbN
       have hZ2:=hZN
       clear hbN hZN
       refine hK.out _ _ ?_ (fun hHeld=>?_)
       ·exact (HF.out _ hbX).1
       clear hK K
       (try simp only [Act.put,pA,pB,pC])
       refine run_in [13,14] ?_
       iterate 2 (refine run_e rfl (by kernel_rfl) (by rfl) (fun _ _ _ _ h=>h) (by assumption) ?_;apply Exists.intro;refine And.intro (fun w hSw=>?_) ?_;(focus (try dsimp only at hSw);go_simp;(try with_reducible rfl));(try simp only [Act.put,pA,pB,pC]))
       refine run_out ?_
       refine wpAnyH_done (by kernel_rfl) ?_ _
       go_wp2_with fail
       go_meet
       exact ⟨rfl,rfl,hbX⟩
      ·obtain ⟨c2,xa,hc,hw,hb,hZ2,hlo2⟩:=nbox hbX (.cells #[.int .i64 0,.int .i64 0,.int .i64 0,.string ⟨#[]⟩,.string ⟨#[]⟩,.int .i64 0,.slice none 0 0,.string ⟨#[]⟩,.int .i64 0] 24)
       go_simp
       (try rw [hw])
       (try rw [hc])
       replace hbX:=hbX.trans (hb.mono hbX.size)
       clear hb hw hc
       refine hK.out _ _ ?_ (fun hHeld=>?_)
       ·exact (HF.out _ hbX).1
       clear hK K
       (try simp only [Act.put,pA,pB,pC])
       refine wpAnyH_ready (rs:=[9]) (by kernel_rfl) (by simp) ?_
       refine (readyR rfl (fun K hK=>?_) AllReadyH.nil)
       obtain ⟨c1,xa,hc,hw,hb,hZ1,hlo1⟩:=nbox hbX (.cells #[.int .i64 0,.int .i64 0,.int .i64 0,.string ⟨#[]⟩,.string ⟨#[]⟩,.int .i64 0,.slice none 0 0,.string ⟨#[]⟩,.int .i64 0] 24)
       go_simp
       (try rw [hw])
       (try rw [hc])
       have hnz:c2 ≠ c1:=by have:=(Array.getElem?_eq_some_iff.1 hZ2).1;omega
       replace hZ2:=(hb.block _ (Array.getElem?_eq_some_iff.1 hZ2).1).trans hZ2
       replace hbX:=hbX.trans (hb.mono hbX.size)
       clear hb hw hc
       refine hK.out _ _ ?_ (fun hHeld=>?_)
       ·exact (HF.out _ hbX).1
       clear hK K
       (try simp only [Act.put,pA,pB,pC])
       refine wpAnyH_ready (rs:=[11]) (by kernel_rfl) (by simp) ?_
       refine (readyR rfl (fun K hK=>?_) AllReadyH.nil)
       obtain ⟨xs,hw,hT,hbN,hZN,hoth⟩:=nset hbX hlo1 #[.int .i64 0,.int .i64 0,.int .i64 0,.string ⟨#[]⟩,.string ⟨#[]⟩,.int .i64 0,.slice none 0 0,.string ⟨#[]⟩,.int .i64 0] hZ1
       refine step_store_run (by rfl) 24 (.tmp 19) (.tmp 89) rfl (p:=⟨_,0,none⟩) rfl rfl (run_storeVar_row _ _ 24 24 _ #[.int .i64 0,.int .i64 0,.int .i64 0,.string ⟨#[]⟩,.string ⟨#[]⟩,.int .i64 0,.slice none 0 0,.string ⟨#[]⟩,.int .i64 0] hZ1 hsz9 rfl zoneA) ?_
       (try rw [hw])
       replace hZ2:=(hoth c2 hnz).trans hZ2
       clear hbX hZ1 hw hT hoth
       have hbX:=hbN
       have hZ1:=hZN
       clear hbN hZN
       refine hK.out _ _ ?_ (fun hHeld=>?_)
       ·exact (HF.out _ hbX).1
       clear hK K
       (try simp only [Act.put,pA,pB,pC])
       refine wpAnyH_ready (rs:=[12]) (by kernel_rfl) (by simp) ?_
       refine (readyR rfl (fun K hK=>?_) AllReadyH.nil)
       obtain ⟨xs,hw,hT,hbN,hZN,hoth⟩:=nset hbX hlo2 #[.int .i64 0,.int .i64 0,.int .i64 0,.string ⟨#[]⟩,.string ⟨#[]⟩,.int .i64 0,.slice none 0 0,.string ⟨#[]⟩,.int .i64 0] hZ2
       refine step_store_run (by rfl) 24 (.tmp 20) (.tmp 90) rfl (p:=⟨_,0,none⟩) rfl rfl (run_storeVar_row _ _ 24 24 _ #[.int .i64 0,.int .i64 0,.int .i64 0,.string ⟨#[]⟩,.string ⟨#[]⟩,.int .i64 0,.slice none 0 0,.string ⟨#[]⟩,.int .i64 0] hZ2 hsz9 rfl zoneA) ?_
       (try rw [hw])
       clear hbX hZ2 hw hT hoth
       have hbX:=hbN
       have hZ2:=hZN
       clear hbN hZN
       refine hK.out _ _ ?_ (fun hHeld=>?_)
       ·exact (HF.out _ hbX).1
       clear hK K
       (try simp only [Act.put,pA,pB,pC])
       refine run_in [13,14] ?_
       iterate 2 (refine run_e rfl (by kernel_rfl) (by rfl) (fun _ _ _ _ h=>h) (by assumption) ?_;apply Exists.intro;refine And.intro (fun w hSw=>?_) ?_;(focus (try dsimp only at hSw);go_simp;(try with_reducible rfl));(try simp only [Act.put,pA,pB,pC]))
       refine run_out ?_
       refine wpAnyH_done (by kernel_rfl) ?_ _
       go_wp2_with fail
       go_meet
       exact ⟨rfl,rfl,hbX⟩
     ·obtain ⟨c1,xa,hc,hw,hb,hZ1,hlo1⟩:=nbox hbX (.cells #[.int .i64 0,.int .i64 0,.int .i64 0,.string ⟨#[]⟩,.string ⟨#[]⟩,.int .i64 0,.slice none 0 0,.string ⟨#[]⟩,.int .i64 0] 24)
      go_simp
      (try rw [hw])
      (try rw [hc])
      replace hbX:=hbX.trans (hb.mono hbX.size)
      clear hb hw hc
      refine hK.out _ _ ?_ (fun hHeld=>?_)
      ·exact (HF.out _ hbX).1
      clear hK K
      (try simp only [Act.put,pA,pB,pC])
      refine wpAnyH_ready (rs:=[3,10]) (by kernel_rfl) (by simp) ?_
      refine (readyR rfl (fun K hK=>?_) (readyR rfl (fun K hK=>?_) AllReadyH.nil))
      ·go_simp
       refine (HN40.out _ _ (HNo.out _ hbX)).mono ?_
       rintro e y2 ⟨rfl,hb⟩
       replace hZ1:=(hb.block _ (Array.getElem?_eq_some_iff.1 hZ1).1).trans hZ1
       replace hbX:=hbX.trans (hb.mono hbX.size)
       clear hb
       go_wp2_with fail
       refine hK.out _ _ ?_ (fun hHeld=>?_)
       ·exact (HF.out _ hbX).1
       clear hK K
       (try simp only [Act.put,pA,pB,pC])
       refine run_in [4,5,6,7,8] ?_
       iterate 5 (refine run_e rfl (by kernel_rfl) (by rfl) (fun _ _ _ _ h=>h) (by assumption) ?_;apply Exists.intro;refine And.intro (fun w hSw=>?_) ?_;(focus (try dsimp only at hSw);go_simp;(try with_reducible rfl));(try simp only [Act.put,pA,pB,pC]))
       refine run_out ?_
       refine wpAnyH_ready (rs:=[10]) (by kernel_rfl) (by simp) ?_
       refine (readyR rfl (fun K hK=>?_) AllReadyH.nil)
       obtain ⟨c2,xa,hc,hw,hb,hZ2,hlo2⟩:=nbox hbX (.cells #[.int .i64 0,.int .i64 0,.int .i64 0,.string ⟨#[]⟩,.string ⟨#[]⟩,.int .i64 0,.slice none 0 0,.string ⟨#[]⟩,.int .i64 0] 24)
       go_simp
       (try rw [hw])
       (try rw [hc])
       have hnz:c1 ≠ c2:=by have:=(Array.getElem?_eq_some_iff.1 hZ1).1;omega
       replace hZ1:=(hb.block _ (Array.getElem?_eq_some_iff.1 hZ1).1).trans hZ1
       replace hbX:=hbX.trans (hb.mono hbX.size)
       clear hb hw hc
       refine hK.out _ _ ?_ (fun hHeld=>?_)
       ·exact (HF.out _ hbX).1
       clear hK K
       (try simp only [Act.put,pA,pB,pC])
       refine wpAnyH_ready (rs:=[11]) (by kernel_rfl) (by simp) ?_
       refine (readyR rfl (fun K hK=>?_) AllReadyH.nil)
       obtain ⟨xs,hw,hT,hbN,hZN,hoth⟩:=nset hbX hlo1 #[.int .i64 0,.int .i64 0,.int .i64 0,.string ⟨#[]⟩,.string ⟨#[]⟩,.int .i64 0,.slice none 0 0,.string ⟨#[]⟩,.int .i64 0] hZ1
       refine step_store_run (by rfl) 24 (.tmp 19) (.tmp 89) rfl (p:=⟨_,0,none⟩) rfl rfl (run_storeVar_row _ _ 24 24 _ #[.int .i64 0,.int .i64 0,.int .i64 0,.string ⟨#[]⟩,.string ⟨#[]⟩,.int .i64 0,.slice none 0 0,.string ⟨#[]⟩,.int .i64 0] hZ1 hsz9 rfl zoneA) ?_
       (try rw [hw])
       replace hZ2:=(hoth c2 (Ne.symm hnz)).trans hZ2
       clear hbX hZ1 hw hT hoth
       have hbX:=hbN
       have hZ1:=hZN
       clear hbN hZN
       refine hK.out _ _ ?_ (fun hHeld=>?_)
       ·exact (HF.out _ hbX).1
       clear hK K
       (try simp only [Act.put,pA,pB,pC])
       refine wpAnyH_ready (rs:=[12]) (by kernel_rfl) (by simp) ?_
       refine (readyR rfl (fun K hK=>?_) AllReadyH.nil)
       obtain ⟨xs,hw,hT,hbN,hZN,hoth⟩:=nset hbX hlo2 #[.int .i64 0,.int .i64 0,.int .i64 0,.string ⟨#[]⟩,.string ⟨#[]⟩,.int .i64 0,.slice none 0 0,.string ⟨#[]⟩,.int .i64 0] hZ2
       refine step_store_run (by rfl) 24 (.tmp 20) (.tmp 90) rfl (p:=⟨_,0,none⟩) rfl rfl (run_storeVar_row _ _ 24 24 _ #[.int .i64 0,.int .i64 0,.int .i64 0,.string ⟨#[]⟩,.string ⟨#[]⟩,.int .i64 0,.slice none 0 0,.string ⟨#[]⟩,.int .i64 0] hZ2 hsz9 rfl zoneA) ?_
       (try rw [hw])
       clear hbX hZ2 hw hT hoth
       have hbX:=hbN
       have hZ2:=hZN
       clear hbN hZN
       refine hK.out _ _ ?_ (fun hHeld=>?_)
       ·exact (HF.out _ hbX).1
       clear hK K
       (try simp only [Act.put,pA,pB,pC])
       refine run_in [13,14] ?_
       iterate 2 (refine run_e rfl (by kernel_rfl) (by rfl) (fun _ _ _ _ h=>h) (by assumption) ?_;apply Exists.intro;refine And.intro (fun w hSw=>?_) ?_;(focus (try dsimp only at hSw);go_simp;(try with_reducible rfl));(try simp only [Act.put,pA,pB,pC]))
       refine run_out ?_
       refine wpAnyH_done (by kernel_rfl) ?_ _
       go_wp2_with fail
       go_meet
       exact ⟨rfl,rfl,hbX⟩
      ·obtain ⟨c2,xa,hc,hw,hb,hZ2,hlo2⟩:=nbox hbX (.cells #[.int .i64 0,.int .i64 0,.int .i64 0,.string ⟨#[]⟩,.string ⟨#[]⟩,.int .i64 0,.slice none 0 0,.string ⟨#[]⟩,.int .i64 0] 24)
       go_simp
       (try rw [hw])
       (try rw [hc])
       have hnz:c1 ≠ c2:=by have:=(Array.getElem?_eq_some_iff.1 hZ1).1;omega
       replace hZ1:=(hb.block _ (Array.getElem?_eq_some_iff.1 hZ1).1).trans hZ1
       replace hbX:=hbX.trans (hb.mono hbX.size)
       clear hb hw hc
       refine hK.out _ _ ?_ (fun hHeld=>?_)
       ·exact (HF.out _ hbX).1
       clear hK K
       (try simp only [Act.put,pA,pB,pC])
       refine wpAnyH_ready (rs:=[3]) (by kernel_rfl) (by simp) ?_
       refine (readyR rfl (fun K hK=>?_) AllReadyH.nil)
       go_simp
       refine (HN40.out _ _ (HNo.out _ hbX)).mono ?_
       rintro e y2 ⟨rfl,hb⟩
       replace hZ1:=(hb.block _ (Array.getElem?_eq_some_iff.1 hZ1).1).trans hZ1
       replace hZ2:=(hb.block _ (Array.getElem?_eq_some_iff.1 hZ2).1).trans hZ2
       replace hbX:=hbX.trans (hb.mono hbX.size)
       clear hb
       go_wp2_with fail
       refine hK.out _ _ ?_ (fun hHeld=>?_)
       ·exact (HF.out _ hbX).1
       clear hK K
       (try simp only [Act.put,pA,pB,pC])
       refine run_in [4,5,6,7,8] ?_
       iterate 5 (refine run_e rfl (by kernel_rfl) (by rfl) (fun _ _ _ _ h=>h) (by assumption) ?_;apply Exists.intro;refine And.intro (fun w hSw=>?_) ?_;(focus (try dsimp only at hSw);go_simp;(try with_reducible rfl));(try simp only [Act.put,pA,pB,pC]))
       refine run_out ?_
       refine wpAnyH_ready (rs:=[11]) (by kernel_rfl) (by simp) ?_
       refine (readyR rfl (fun K hK=>?_) AllReadyH.nil)
       obtain ⟨xs,hw,hT,hbN,hZN,hoth⟩:=nset hbX hlo1 #[.int .i64 0,.int .i64 0,.int .i64 0,.string ⟨#[]⟩,.string ⟨#[]⟩,.int .i64 0,.slice none 0 0,.string ⟨#[]⟩,.int .i64 0] hZ1
       refine step_store_run (by rfl) 24 (.tmp 19) (.tmp 89) rfl (p:=⟨_,0,none⟩) rfl rfl (run_storeVar_row _ _ 24 24 _ #[.int .i64 0,.int .i64 0,.int .i64 0,.string ⟨#[]⟩,.string ⟨#[]⟩,.int .i64 0,.slice none 0 0,.string ⟨#[]⟩,.int .i64 0] hZ1 hsz9 rfl zoneA) ?_
       (try rw [hw])
       replace hZ2:=(hoth c2 (Ne.symm hnz)).trans hZ2
       clear hbX hZ1 hw hT hoth
       have hbX:=hbN
       have hZ1:=hZN
       clear hbN hZN
       refine hK.out _ _ ?_ (fun hHeld=>?_)
       ·exact (HF.out _ hbX).1
       clear hK K
       (try simp only [Act.put,pA,pB,pC])
       refine wpAnyH_ready (rs:=[12]) (by kernel_rfl) (by simp) ?_
       refine (readyR rfl (fun K hK=>?_) AllReadyH.nil)
       obtain ⟨xs,hw,hT,hbN,hZN,hoth⟩:=nset hbX hlo2 #[.int .i64 0,.int .i64 0,.int .i64 0,.string ⟨#[]⟩,.string ⟨#[]⟩,.int .i64 0,.slice none 0 0,.string ⟨#[]⟩,.int .i64 0] hZ2
       refine step_store_run (by rfl) 24 (.tmp 20) (.tmp 90) rfl (p:=⟨_,0,none⟩) rfl rfl (run_storeVar_row _ _ 24 24 _ #[.int .i64 0,.int .i64 0,.int .i64 0,.string ⟨#[]⟩,.string ⟨#[]⟩,.int .i64 0,.slice none 0 0,.string ⟨#[]⟩,.int .i64 0] hZ2 hsz9 rfl zoneA) ?_
       (try rw [hw])
       clear hbX hZ2 hw hT hoth
       have hbX:=hbN
       have hZ2:=hZN
       clear hbN hZN
       refine hK.out _ _ ?_ (fun hHeld=>?_)
       ·exact (HF.out _ hbX).1
       clear hK K
       (try simp only [Act.put,pA,pB,pC])
       refine run_in [13,14] ?_
       iterate 2 (refine run_e rfl (by kernel_rfl) (by rfl) (fun _ _ _ _ h=>h) (by assumption) ?_;apply Exists.intro;refine And.intro (fun w hSw=>?_) ?_;(focus (try dsimp only at hSw);go_simp;(try with_reducible rfl));(try simp only [Act.put,pA,pB,pC]))
       refine run_out ?_
       refine wpAnyH_done (by kernel_rfl) ?_ _
       go_wp2_with fail
       go_meet
       exact ⟨rfl,rfl,hbX⟩
     ·obtain ⟨c2,xa,hc,hw,hb,hZ2,hlo2⟩:=nbox hbX (.cells #[.int .i64 0,.int .i64 0,.int .i64 0,.string ⟨#[]⟩,.string ⟨#[]⟩,.int .i64 0,.slice none 0 0,.string ⟨#[]⟩,.int .i64 0] 24)
      go_simp
      (try rw [hw])
      (try rw [hc])
      replace hbX:=hbX.trans (hb.mono hbX.size)
      clear hb hw hc
      refine hK.out _ _ ?_ (fun hHeld=>?_)
      ·exact (HF.out _ hbX).1
      clear hK K
      (try simp only [Act.put,pA,pB,pC])
      refine wpAnyH_ready (rs:=[3,9]) (by kernel_rfl) (by simp) ?_
      refine (readyR rfl (fun K hK=>?_) (readyR rfl (fun K hK=>?_) AllReadyH.nil))
      ·go_simp
       refine (HN40.out _ _ (HNo.out _ hbX)).mono ?_
       rintro e y2 ⟨rfl,hb⟩
       replace hZ2:=(hb.block _ (Array.getElem?_eq_some_iff.1 hZ2).1).trans hZ2
       replace hbX:=hbX.trans (hb.mono hbX.size)
       clear hb
       go_wp2_with fail
       refine hK.out _ _ ?_ (fun hHeld=>?_)
       ·exact (HF.out _ hbX).1
       clear hK K
       (try simp only [Act.put,pA,pB,pC])
       refine run_in [4,5,6,7,8] ?_
       iterate 5 (refine run_e rfl (by kernel_rfl) (by rfl) (fun _ _ _ _ h=>h) (by assumption) ?_;apply Exists.intro;refine And.intro (fun w hSw=>?_) ?_;(focus (try dsimp only at hSw);go_simp;(try with_reducible rfl));(try simp only [Act.put,pA,pB,pC]))
       refine run_out ?_
       refine wpAnyH_ready (rs:=[9]) (by kernel_rfl) (by simp) ?_
       refine (readyR rfl (fun K hK=>?_) AllReadyH.nil)
       obtain ⟨c1,xa,hc,hw,hb,hZ1,hlo1⟩:=nbox hbX (.cells #[.int .i64 0,.int .i64 0,.int .i64 0,.string ⟨#[]⟩,.string ⟨#[]⟩,.int .i64 0,.slice none 0 0,.string ⟨#[]⟩,.int .i64 0] 24)
       go_simp
       (try rw [hw])
       (try rw [hc])
       have hnz:c2 ≠ c1:=by have:=(Array.getElem?_eq_some_iff.1 hZ2).1;omega
       replace hZ2:=(hb.block _ (Array.getElem?_eq_some_iff.1 hZ2).1).trans hZ2
       replace hbX:=hbX.trans (hb.mono hbX.size)
       clear hb hw hc
       refine hK.out _ _ ?_ (fun hHeld=>?_)
       ·exact (HF.out _ hbX).1
       clear hK K
       (try simp only [Act.put,pA,pB,pC])
       refine wpAnyH_ready (rs:=[11]) (by kernel_rfl) (by simp) ?_
       refine (readyR rfl (fun K hK=>?_) AllReadyH.nil)
       obtain ⟨xs,hw,hT,hbN,hZN,hoth⟩:=nset hbX hlo1 #[.int .i64 0,.int .i64 0,.int .i64 0,.string ⟨#[]⟩,.string ⟨#[]⟩,.int .i64 0,.slice none 0 0,.string ⟨#[]⟩,.int .i64 0] hZ1
       refine step_store_run (by rfl) 24 (.tmp 19) (.tmp 89) rfl (p:=⟨_,0,none⟩) rfl rfl (run_storeVar_row _ _ 24 24 _ #[.int .i64 0,.int .i64 0,.int .i64 0,.string ⟨#[]⟩,.string ⟨#[]⟩,.int .i64 0,.slice none 0 0,.string ⟨#[]⟩,.int .i64 0] hZ1 hsz9 rfl zoneA) ?_
       (try rw [hw])
       replace hZ2:=(hoth c2 hnz).trans hZ2
       clear hbX hZ1 hw hT hoth
       have hbX:=hbN
       have hZ1:=hZN
       clear hbN hZN
       refine hK.out _ _ ?_ (fun hHeld=>?_)
       ·exact (HF.out _ hbX).1
       clear hK K
       (try simp only [Act.put,pA,pB,pC])
       refine wpAnyH_ready (rs:=[12]) (by kernel_rfl) (by simp) ?_
       refine (readyR rfl (fun K hK=>?_) AllReadyH.nil)
       obtain ⟨xs,hw,hT,hbN,hZN,hoth⟩:=nset hbX hlo2 #[.int .i64 0,.int .i64 0,.int .i64 0,.string ⟨#[]⟩,.string ⟨#[]⟩,.int .i64 0,.slice none 0 0,.string ⟨#[]⟩,.int .i64 0] hZ2
       refine step_store_run (by rfl) 24 (.tmp 20) (.tmp 90) rfl (p:=⟨_,0,none⟩) rfl rfl (run_storeVar_row _ _ 24 24 _ #[.int .i64 0,.int .i64 0,.int .i64 0,.string ⟨#[]⟩,.string ⟨#[]⟩,.int .i64 0,.slice none 0 0,.string ⟨#[]⟩,.int .i64 0] hZ2 hsz9 rfl zoneA) ?_
       (try rw [hw])
       clear hbX hZ2 hw hT hoth
       have hbX:=hbN
       have hZ2:=hZN
       clear hbN hZN
       refine hK.out _ _ ?_ (fun hHeld=>?_)
       ·exact (HF.out _ hbX).1
       clear hK K
       (try simp only [Act.put,pA,pB,pC])
       refine run_in [13,14] ?_
       iterate 2 (refine run_e rfl (by kernel_rfl) (by rfl) (fun _ _ _ _ h=>h) (by assumption) ?_;apply Exists.intro;refine And.intro (fun w hSw=>?_) ?_;(focus (try dsimp only at hSw);go_simp;(try with_reducible rfl));(try simp only [Act.put,pA,pB,pC]))
       refine run_out ?_
       refine wpAnyH_done (by kernel_rfl) ?_ _
       go_wp2_with fail
       go_meet
       exact ⟨rfl,rfl,hbX⟩
      ·obtain ⟨c1,xa,hc,hw,hb,hZ1,hlo1⟩:=nbox hbX (.cells #[.int .i64 0,.int .i64 0,.int .i64 0,.string ⟨#[]⟩,.string ⟨#[]⟩,.int .i64 0,.slice none 0 0,.string ⟨#[]⟩,.int .i64 0] 24)
       go_simp
       (try rw [hw])
       (try rw [hc])
       have hnz:c2 ≠ c1:=by have:=(Array.getElem?_eq_some_iff.1 hZ2).1;omega
       replace hZ2:=(hb.block _ (Array.getElem?_eq_some_iff.1 hZ2).1).trans hZ2
       replace hbX:=hbX.trans (hb.mono hbX.size)
       clear hb hw hc
       refine hK.out _ _ ?_ (fun hHeld=>?_)
       ·exact (HF.out _ hbX).1
       clear hK K
       (try simp only [Act.put,pA,pB,pC])
       refine wpAnyH_ready (rs:=[3]) (by kernel_rfl) (by simp) ?_
       refine (readyR rfl (fun K hK=>?_) AllReadyH.nil)
       go_simp
       refine (HN40.out _ _ (HNo.out _ hbX)).mono ?_
       rintro e y2 ⟨rfl,hb⟩
       replace hZ1:=(hb.block _ (Array.getElem?_eq_some_iff.1 hZ1).1).trans hZ1
       replace hZ2:=(hb.block _ (Array.getElem?_eq_some_iff.1 hZ2).1).trans hZ2
       replace hbX:=hbX.trans (hb.mono hbX.size)
       clear hb
       go_wp2_with fail
       refine hK.out _ _ ?_ (fun hHeld=>?_)
       ·exact (HF.out _ hbX).1
       clear hK K
       (try simp only [Act.put,pA,pB,pC])
       refine run_in [4,5,6,7,8] ?_
       iterate 5 (refine run_e rfl (by kernel_rfl) (by rfl) (fun _ _ _ _ h=>h) (by assumption) ?_;apply Exists.intro;refine And.intro (fun w hSw=>?_) ?_;(focus (try dsimp only at hSw);go_simp;(try with_reducible rfl));(try simp only [Act.put,pA,pB,pC]))
       refine run_out ?_
       refine wpAnyH_ready (rs:=[11]) (by kernel_rfl) (by simp) ?_
       refine (readyR rfl (fun K hK=>?_) AllReadyH.nil)
       obtain ⟨xs,hw,hT,hbN,hZN,hoth⟩:=nset hbX hlo1 #[.int .i64 0,.int .i64 0,.int .i64 0,.string ⟨#[]⟩,.string ⟨#[]⟩,.int .i64 0,.slice none 0 0,.string ⟨#[]⟩,.int .i64 0] hZ1
       refine step_store_run (by rfl) 24 (.tmp 19) (.tmp 89) rfl (p:=⟨_,0,none⟩) rfl rfl (run_storeVar_row _ _ 24 24 _ #[.int .i64 0,.int .i64 0,.int .i64 0,.string ⟨#[]⟩,.string ⟨#[]⟩,.int .i64 0,.slice none 0 0,.string ⟨#[]⟩,.int .i64 0] hZ1 hsz9 rfl zoneA) ?_
       (try rw [hw])
       replace hZ2:=(hoth c2 hnz).trans hZ2
       clear hbX hZ1 hw hT hoth
       have hbX:=hbN
       have hZ1:=hZN
       clear hbN hZN
       refine hK.out _ _ ?_ (fun hHeld=>?_)
       ·exact (HF.out _ hbX).1
       clear hK K
       (try simp only [Act.put,pA,pB,pC])
       refine wpAnyH_ready (rs:=[12]) (by kernel_rfl) (by simp) ?_
       refine (readyR rfl (fun K hK=>?_) AllReadyH.nil)
       obtain ⟨xs,hw,hT,hbN,hZN,hoth⟩:=nset hbX hlo2 #[.int .i64 0,.int .i64 0,.int .i64 0,.string ⟨#[]⟩,.string ⟨#[]⟩,.int .i64 0,.slice none 0 0,.string ⟨#[]⟩,.int .i64 0] hZ2
       refine step_store_run (by rfl) 24 (.tmp 20) (.tmp 90) rfl (p:=⟨_,0,none⟩) rfl rfl (run_storeVar_row _ _ 24 24 _ #[.int .i64 0,.int .i64 0,.int .i64 0,.string ⟨#[]⟩,.string ⟨#[]⟩,.int .i64 0,.slice none 0 0,.string ⟨#[]⟩,.int .i64 0] hZ2 hsz9 rfl zoneA) ?_
       (try rw [hw])
       clear hbX hZ2 hw hT hoth
       have hbX:=hbN
       have hZ2:=hZN
       clear hbN hZN
       refine hK.out _ _ ?_ (fun hHeld=>?_)
       ·exact (HF.out _ hbX).1
       clear hK K
       (try simp only [Act.put,pA,pB,pC])
       refine run_in [13,14] ?_
       iterate 2 (refine run_e rfl (by kernel_rfl) (by rfl) (fun _ _ _ _ h=>h) (by assumption) ?_;apply Exists.intro;refine And.intro (fun w hSw=>?_) ?_;(focus (try dsimp only at hSw);go_simp;(try with_reducible rfl));(try simp only [Act.put,pA,pB,pC]))
       refine run_out ?_
       refine wpAnyH_done (by kernel_rfl) ?_ _
       go_wp2_with fail
       go_meet
       exact ⟨rfl,rfl,hbX⟩
    ·obtain ⟨c1,xa,hc,hw,hb,hZ1,hlo1⟩:=nbox hbX (.cells #[.int .i64 0,.int .i64 0,.int .i64 0,.string ⟨#[]⟩,.string ⟨#[]⟩,.int .i64 0,.slice none 0 0,.string ⟨#[]⟩,.int .i64 0] 24)
     go_simp
     (try rw [hw])
     (try rw [hc])
     replace hbX:=hbX.trans (hb.mono hbX.size)
     clear hb hw hc
     refine hK.out _ _ ?_ (fun hHeld=>?_)
     ·exact (HF.out _ hbX).1
     clear hK K
     (try simp only [Act.put,pA,pB,pC])
     refine wpAnyH_ready (rs:=[1,10]) (by kernel_rfl) (by simp) ?_
     refine (readyR rfl (fun K hK=>?_) (readyR rfl (fun K hK=>?_) AllReadyH.nil))
     ·go_simp
      refine (HRf.out _).mono ?_
      rintro e y1 ⟨rfl,hb⟩
      replace hZ1:=(hb.block _ (Array.getElem?_eq_some_iff.1 hZ1).1).trans hZ1
      replace hbX:=hbX.trans (hb.mono hbX.size)
      clear hb
      go_wp2_with fail
      refine hK.out _ _ ?_ (fun hHeld=>?_)
      ·exact (HF.out _ hbX).1
      clear hK K
      (try simp only [Act.put,pA,pB,pC])
      refine wpAnyH_ready (rs:=[3,10]) (by kernel_rfl) (by simp) ?_
      refine (readyR rfl (fun K hK=>?_) (readyR rfl (fun K hK=>?_) AllReadyH.nil))
      ·go_simp
       refine (HN40.out _ _ (HNo.out _ hbX)).mono ?_
       rintro e y2 ⟨rfl,hb⟩
       replace hZ1:=(hb.block _ (Array.getElem?_eq_some_iff.1 hZ1).1).trans hZ1
       replace hbX:=hbX.trans (hb.mono hbX.size)
       clear hb
       go_wp2_with fail
       refine hK.out _ _ ?_ (fun hHeld=>?_)
       ·exact (HF.out _ hbX).1
       clear hK K
       (try simp only [Act.put,pA,pB,pC])
       refine run_in [4,5,6,7,8] ?_
       iterate 5 (refine run_e rfl (by kernel_rfl) (by rfl) (fun _ _ _ _ h=>h) (by assumption) ?_;apply Exists.intro;refine And.intro (fun w hSw=>?_) ?_;(focus (try dsimp only at hSw);go_simp;(try with_reducible rfl));(try simp only [Act.put,pA,pB,pC]))
       refine run_out ?_
       refine wpAnyH_ready (rs:=[10]) (by kernel_rfl) (by simp) ?_
       refine (readyR rfl (fun K hK=>?_) AllReadyH.nil)
       obtain ⟨c2,xa,hc,hw,hb,hZ2,hlo2⟩:=nbox hbX (.cells #[.int .i64 0,.int .i64 0,.int .i64 0,.string ⟨#[]⟩,.string ⟨#[]⟩,.int .i64 0,.slice none 0 0,.string ⟨#[]⟩,.int .i64 0] 24)
       go_simp
       (try rw [hw])
       (try rw [hc])
       have hnz:c1 ≠ c2:=by have:=(Array.getElem?_eq_some_iff.1 hZ1).1;omega
       replace hZ1:=(hb.block _ (Array.getElem?_eq_some_iff.1 hZ1).1).trans hZ1
       replace hbX:=hbX.trans (hb.mono hbX.size)
       clear hb hw hc
       refine hK.out _ _ ?_ (fun hHeld=>?_)
       ·exact (HF.out _ hbX).1
       clear hK K
       (try simp only [Act.put,pA,pB,pC])
       refine wpAnyH_ready (rs:=[11]) (by kernel_rfl) (by simp) ?_
       refine (readyR rfl (fun K hK=>?_) AllReadyH.nil)
       obtain ⟨xs,hw,hT,hbN,hZN,hoth⟩:=nset hbX hlo1 #[.int .i64 0,.int .i64 0,.int .i64 0,.string ⟨#[]⟩,.string ⟨#[]⟩,.int .i64 0,.slice none 0 0,.string ⟨#[]⟩,.int .i64 0] hZ1
       refine step_store_run (by rfl) 24 (.tmp 19) (.tmp 89) rfl (p:=⟨_,0,none⟩) rfl rfl (run_storeVar_row _ _ 24 24 _ #[.int .i64 0,.int .i64 0,.int .i64 0,.string ⟨#[]⟩,.string ⟨#[]⟩,.int .i64 0,.slice none 0 0,.string ⟨#[]⟩,.int .i64 0] hZ1 hsz9 rfl zoneA) ?_
       (try rw [hw])
       replace hZ2:=(hoth c2 (Ne.symm hnz)).trans hZ2
       clear hbX hZ1 hw hT hoth
       have hbX:=hbN
       have hZ1:=hZN
       clear hbN hZN
       refine hK.out _ _ ?_ (fun hHeld=>?_)
       ·exact (HF.out _ hbX).1
       clear hK K
       (try simp only [Act.put,pA,pB,pC])
       refine wpAnyH_ready (rs:=[12]) (by kernel_rfl) (by simp) ?_
       refine (readyR rfl (fun K hK=>?_) AllReadyH.nil)
       obtain ⟨xs,hw,hT,hbN,hZN,hoth⟩:=nset hbX hlo2 #[.int .i64 0,.int .i64 0,.int .i64 0,.string ⟨#[]⟩,.string ⟨#[]⟩,.int .i64 0,.slice none 0 0,.string ⟨#[]⟩,.int .i64 0] hZ2
       refine step_store_run (by rfl) 24 (.tmp 20) (.tmp 90) rfl (p:=⟨_,0,none⟩) rfl rfl (run_storeVar_row _ _ 24 24 _ #[.int .i64 0,.int .i64 0,.int .i64 0,.string ⟨#[]⟩,.string ⟨#[]⟩,.int .i64 0,.slice none 0 0,.string ⟨#[]⟩,.int .i64 0] hZ2 hsz9 rfl zoneA) ?_
       (try rw [hw])
       clear hbX hZ2 hw hT hoth
       have hbX:=hbN
       have hZ2:=hZN
       clear hbN hZN
       refine hK.out _ _ ?_ (fun hHeld=>?_)
       ·exact (HF.out _ hbX).1
       clear hK K
       (try simp only [Act.put,pA,pB,pC])
       refine run_in [13,14] ?_
       iterate 2 (refine run_e rfl (by kernel_rfl) (by rfl) (fun _ _ _ _ h=>h) (by assumption) ?_;apply Exists.intro;refine And.intro (fun w hSw=>?_) ?_;(focus (try dsimp only at hSw);go_simp;(try with_reducible rfl));(try simp only [Act.put,pA,pB,pC]))
       refine run_out ?_
       refine wpAnyH_done (by kernel_rfl) ?_ _
       go_wp2_with fail
       go_meet
       exact ⟨rfl,rfl,hbX⟩
      ·obtain ⟨c2,xa,hc,hw,hb,hZ2,hlo2⟩:=nbox hbX (.cells #[.int .i64 0,.int .i64 0,.int .i64 0,.string ⟨#[]⟩,.string ⟨#[]⟩,.int .i64 0,.slice none 0 0,.string ⟨#[]⟩,.int .i64 0] 24)
       go_simp
       (try rw [hw])
       (try rw [hc])
       have hnz:c1 ≠ c2:=by have:=(Array.getElem?_eq_some_iff.1 hZ1).1;omega
       replace hZ1:=(hb.block _ (Array.getElem?_eq_some_iff.1 hZ1).1).trans hZ1
       replace hbX:=hbX.trans (hb.mono hbX.size)
       clear hb hw hc
       refine hK.out _ _ ?_ (fun hHeld=>?_)
       ·exact (HF.out _ hbX).1
       clear hK K
       (try simp only [Act.put,pA,pB,pC])
       refine wpAnyH_ready (rs:=[3]) (by kernel_rfl) (by simp) ?_
       refine (readyR rfl (fun K hK=>?_) AllReadyH.nil)
       go_simp
       refine (HN40.out _ _ (HNo.out _ hbX)).mono ?_
       rintro e y2 ⟨rfl,hb⟩
       replace hZ1:=(hb.block _ (Array.getElem?_eq_some_iff.1 hZ1).1).trans hZ1
       replace hZ2:=(hb.block _ (Array.getElem?_eq_some_iff.1 hZ2).1).trans hZ2
       replace hbX:=hbX.trans (hb.mono hbX.size)
       clear hb
       go_wp2_with fail
       refine hK.out _ _ ?_ (fun hHeld=>?_)
       ·exact (HF.out _ hbX).1
       clear hK K
       (try simp only [Act.put,pA,pB,pC])
       refine run_in [4,5,6,7,8] ?_
       iterate 5 (refine run_e rfl (by kernel_rfl) (by rfl) (fun _ _ _ _ h=>h) (by assumption) ?_;apply Exists.intro;refine And.intro (fun w hSw=>?_) ?_;(focus (try dsimp only at hSw);go_simp;(try with_reducible rfl));(try simp only [Act.put,pA,pB,pC]))
       refine run_out ?_
       refine wpAnyH_ready (rs:=[11]) (by kernel_rfl) (by simp) ?_
       refine (readyR rfl (fun K hK=>?_) AllReadyH.nil)
       obtain ⟨xs,hw,hT,hbN,hZN,hoth⟩:=nset hbX hlo1 #[.int .i64 0,.int .i64 0,.int .i64 0,.string ⟨#[]⟩,.string ⟨#[]⟩,.int .i64 0,.slice none 0 0,.string ⟨#[]⟩,.int .i64 0] hZ1
       refine step_store_run (by rfl) 24 (.tmp 19) (.tmp 89) rfl (p:=⟨_,0,none⟩) rfl rfl (run_storeVar_row _ _ 24 24 _ #[.int .i64 0,.int .i64 0,.int .i64 0,.string ⟨#[]⟩,.string ⟨#[]⟩,.int .i64 0,.slice none 0 0,.string ⟨#[]⟩,.int .i64 0] hZ1 hsz9 rfl zoneA) ?_
       (try rw [hw])
       replace hZ2:=(hoth c2 (Ne.symm hnz)).trans hZ2
       clear hbX hZ1 hw hT hoth
       have hbX:=hbN
       have hZ1:=hZN
       clear hbN hZN
       refine hK.out _ _ ?_ (fun hHeld=>?_)
       ·exact (HF.out _ hbX).1
       clear hK K
       (try simp only [Act.put,pA,pB,pC])
       refine wpAnyH_ready (rs:=[12]) (by kernel_rfl) (by simp) ?_
       refine (readyR rfl (fun K hK=>?_) AllReadyH.nil)
       obtain ⟨xs,hw,hT,hbN,hZN,hoth⟩:=nset hbX hlo2 #[.int .i64 0,.int .i64 0,.int .i64 0,.string ⟨#[]⟩,.string ⟨#[]⟩,.int .i64 0,.slice none 0 0,.string ⟨#[]⟩,.int .i64 0] hZ2
       refine step_store_run (by rfl) 24 (.tmp 20) (.tmp 90) rfl (p:=⟨_,0,none⟩) rfl rfl (run_storeVar_row _ _ 24 24 _ #[.int .i64 0,.int .i64 0,.int .i64 0,.string ⟨#[]⟩,.string ⟨#[]⟩,.int .i64 0,.slice none 0 0,.string ⟨#[]⟩,.int .i64 0] hZ2 hsz9 rfl zoneA) ?_
       (try rw [hw])
       clear hbX hZ2 hw hT hoth
       have hbX:=hbN
       have hZ2:=hZN
       clear hbN hZN
       refine hK.out _ _ ?_ (fun hHeld=>?_)
       ·exact (HF.out _ hbX).1
       clear hK K
       (try simp only [Act.put,pA,pB,pC])
       refine run_in [13,14] ?_
       iterate 2 (refine run_e rfl (by kernel_rfl) (by rfl) (fun _ _ _ _ h=>h) (by assumption) ?_;apply Exists.intro;refine And.intro (fun w hSw=>?_) ?_;(focus (try dsimp only at hSw);go_simp;(try with_reducible rfl));(try simp only [Act.put,pA,pB,pC]))
       refine run_out ?_
       refine wpAnyH_done (by kernel_rfl) ?_ _
       go_wp2_with fail
       go_meet
       exact ⟨rfl,rfl,hbX⟩
     ·obtain ⟨c2,xa,hc,hw,hb,hZ2,hlo2⟩:=nbox hbX (.cells #[.int .i64 0,.int .i64 0,.int .i64 0,.string ⟨#[]⟩,.string ⟨#[]⟩,.int .i64 0,.slice none 0 0,.string ⟨#[]⟩,.int .i64 0] 24)
      go_simp
      (try rw [hw])
      (try rw [hc])
      have hnz:c1 ≠ c2:=by have:=(Array.getElem?_eq_some_iff.1 hZ1).1;omega
      replace hZ1:=(hb.block _ (Array.getElem?_eq_some_iff.1 hZ1).1).trans hZ1
      replace hbX:=hbX.trans (hb.mono hbX.size)
      clear hb hw hc
      refine hK.out _ _ ?_ (fun hHeld=>?_)
      ·exact (HF.out _ hbX).1
      clear hK K
      (try simp only [Act.put,pA,pB,pC])
      refine wpAnyH_ready (rs:=[1]) (by kernel_rfl) (by simp) ?_
      refine (readyR rfl (fun K hK=>?_) AllReadyH.nil)
      go_simp
      refine (HRf.out _).mono ?_
      rintro e y1 ⟨rfl,hb⟩
      replace hZ1:=(hb.block _ (Array.getElem?_eq_some_iff.1 hZ1).1).trans hZ1
      replace hZ2:=(hb.block _ (Array.getElem?_eq_some_iff.1 hZ2).1).trans hZ2
      replace hbX:=hbX.trans (hb.mono hbX.size)
      clear hb
      go_wp2_with fail
      refine hK.out _ _ ?_ (fun hHeld=>?_)
      ·exact (HF.out _ hbX).1
      clear hK K
      (try simp only [Act.put,pA,pB,pC])
      refine wpAnyH_ready (rs:=[3]) (by kernel_rfl) (by simp) ?_
      refine (readyR rfl (fun K hK=>?_) AllReadyH.nil)
      go_simp
      refine (HN40.out _ _ (HNo.out _ hbX)).mono ?_
      rintro e y2 ⟨rfl,hb⟩
      replace hZ1:=(hb.block _ (Array.getElem?_eq_some_iff.1 hZ1).1).trans hZ1
      replace hZ2:=(hb.block _ (Array.getElem?_eq_some_iff.1 hZ2).1).trans hZ2
      replace hbX:=hbX.trans (hb.mono hbX.size)
      clear hb
      go_wp2_with fail
      refine hK.out _ _ ?_ (fun hHeld=>?_)
      ·exact (HF.out _ hbX).1
      clear hK K
      (try simp only [Act.put,pA,pB,pC])
      refine run_in [4,5,6,7,8] ?_
      iterate 5 (refine run_e rfl (by kernel_rfl) (by rfl) (fun _ _ _ _ h=>h) (by assumption) ?_;apply Exists.intro;refine And.intro (fun w hSw=>?_) ?_;(focus (try dsimp only at hSw);go_simp;(try with_reducible rfl));(try simp only [Act.put,pA,pB,pC]))
      refine run_out ?_
      refine wpAnyH_ready (rs:=[11]) (by kernel_rfl) (by simp) ?_
      refine (readyR rfl (fun K hK=>?_) AllReadyH.nil)
      obtain ⟨xs,hw,hT,hbN,hZN,hoth⟩:=nset hbX hlo1 #[.int .i64 0,.int .i64 0,.int .i64 0,.string ⟨#[]⟩,.string ⟨#[]⟩,.int .i64 0,.slice none 0 0,.string ⟨#[]⟩,.int .i64 0] hZ1
      refine step_store_run (by rfl) 24 (.tmp 19) (.tmp 89) rfl (p:=⟨_,0,none⟩) rfl rfl (run_storeVar_row _ _ 24 24 _ #[.int .i64 0,.int .i64 0,.int .i64 0,.string ⟨#[]⟩,.string ⟨#[]⟩,.int .i64 0,.slice none 0 0,.string ⟨#[]⟩,.int .i64 0] hZ1 hsz9 rfl zoneA) ?_
      (try rw [hw])
      replace hZ2:=(hoth c2 (Ne.symm hnz)).trans hZ2
      clear hbX hZ1 hw hT hoth
      have hbX:=hbN
      have hZ1:=hZN
      clear hbN hZN
      refine hK.out _ _ ?_ (fun hHeld=>?_)
      ·exact (HF.out _ hbX).1
      clear hK K
      (try simp only [Act.put,pA,pB,pC])
      refine wpAnyH_ready (rs:=[12]) (by kernel_rfl) (by simp) ?_
      refine (readyR rfl (fun K hK=>?_) AllReadyH.nil)
      obtain ⟨xs,hw,hT,hbN,hZN,hoth⟩:=nset hbX hlo2 #[.int .i64 0,.int .i64 0,.int .i64 0,.string ⟨#[]⟩,.string ⟨#[]⟩,.int .i64 0,.slice none 0 0,.string ⟨#[]⟩,.int .i64 0] hZ2
      refine step_store_run (by rfl) 24 (.tmp 20) (.tmp 90) rfl (p:=⟨_,0,none⟩) rfl rfl (run_storeVar_row _ _ 24 24 _ #[.int .i64 0,.int .i64 0,.int .i64 0,.string ⟨#[]⟩,.string ⟨#[]⟩,.int .i64 0,.slice none 0 0,.string ⟨#[]⟩,.int .i64 0] hZ2 hsz9 rfl zoneA) ?_
      (try rw [hw])
      clear hbX hZ2 hw hT hoth
      have hbX:=hbN
      have hZ2:=hZN
      clear hbN hZN
      refine hK.out _ _ ?_ (fun hHeld=>?_)
      ·exact (HF.out _ hbX).1
      clear hK K
      (try simp only [Act.put,pA,pB,pC])
      refine run_in [13,14] ?_
      iterate 2 (refine run_e rfl (by kernel_rfl) (by rfl) (fun _ _ _ _ h=>h) (by assumption) ?_;apply Exists.intro;refine And.intro (fun w hSw=>?_) ?_;(focus (try dsimp only at hSw);go_simp;(try with_reducible rfl));(try simp only [Act.put,pA,pB,pC]))
      refine run_out ?_
      refine wpAnyH_done (by kernel_rfl) ?_ _
      go_wp2_with fail
      go_meet
      exact ⟨rfl,rfl,hbX⟩
    ·obtain ⟨c2,xa,hc,hw,hb,hZ2,hlo2⟩:=nbox hbX (.cells #[.int .i64 0,.int .i64 0,.int .i64 0,.string ⟨#[]⟩,.string ⟨#[]⟩,.int .i64 0,.slice none 0 0,.string ⟨#[]⟩,.int .i64 0] 24)
     go_simp
     (try rw [hw])
     (try rw [hc])
     replace hbX:=hbX.trans (hb.mono hbX.size)
     clear hb hw hc
     refine hK.out _ _ ?_ (fun hHeld=>?_)
     ·exact (HF.out _ hbX).1
     clear hK K
     (try simp only [Act.put,pA,pB,pC])
     refine wpAnyH_ready (rs:=[1,9]) (by kernel_rfl) (by simp) ?_
     refine (readyR rfl (fun K hK=>?_) (readyR rfl (fun K hK=>?_) AllReadyH.nil))
     ·go_simp
      refine (HRf.out _).mono ?_
      rintro e y1 ⟨rfl,hb⟩
      replace hZ2:=(hb.block _ (Array.getElem?_eq_some_iff.1 hZ2).1).trans hZ2
      replace hbX:=hbX.trans (hb.mono hbX.size)
      clear hb
      go_wp2_with fail
      refine hK.out _ _ ?_ (fun hHeld=>?_)
      ·exact (HF.out _ hbX).1
      clear hK K
      (try simp only [Act.put,pA,pB,pC])
      refine wpAnyH_ready (rs:=[3,9]) (by kernel_rfl) (by simp) ?_
      refine (readyR rfl (fun K hK=>?_) (readyR rfl (fun K hK=>?_) AllReadyH.nil))
      ·go_simp
       refine (HN40.out _ _ (HNo.out _ hbX)).mono ?_
       rintro e y2 ⟨rfl,hb⟩
       replace hZ2:=(hb.block _ (Array.getElem?_eq_some_iff.1 hZ2).1).trans hZ2
       replace hbX:=hbX.trans (hb.mono hbX.size)
       clear hb
       go_wp2_with fail
       refine hK.out _ _ ?_ (fun hHeld=>?_)
       ·exact (HF.out _ hbX).1
       clear hK K
       (try simp only [Act.put,pA,pB,pC])
       refine run_in [4,5,6,7,8] ?_
       iterate 5 (refine run_e rfl (by kernel_rfl) (by rfl) (fun _ _ _ _ h=>h) (by assumption) ?_;apply Exists.intro;refine And.intro (fun w hSw=>?_) ?_;(focus (try dsimp only at hSw);go_simp;(try with_reducible rfl));(try simp only [Act.put,pA,pB,pC]))
       refine run_out ?_
       refine wpAnyH_ready (rs:=[9]) (by kernel_rfl) (by simp) ?_
       refine (readyR rfl (fun K hK=>?_) AllReadyH.nil)
       obtain ⟨c1,xa,hc,hw,hb,hZ1,hlo1⟩:=nbox hbX (.cells #[.int .i64 0,.int .i64 0,.int .i64 0,.string ⟨#[]⟩,.string ⟨#[]⟩,.int .i64 0,.slice none 0 0,.string ⟨#[]⟩,.int .i64 0] 24)
       go_simp
       (try rw [hw])
       (try rw [hc])
       have hnz:c2 ≠ c1:=by have:=(Array.getElem?_eq_some_iff.1 hZ2).1;omega
       replace hZ2:=(hb.block _ (Array.getElem?_eq_some_iff.1 hZ2).1).trans hZ2
       replace hbX:=hbX.trans (hb.mono hbX.size)
       clear hb hw hc
       refine hK.out _ _ ?_ (fun hHeld=>?_)
       ·exact (HF.out _ hbX).1
       clear hK K
       (try simp only [Act.put,pA,pB,pC])
       refine wpAnyH_ready (rs:=[11]) (by kernel_rfl) (by simp) ?_
       refine (readyR rfl (fun K hK=>?_) AllReadyH.nil)
       obtain ⟨xs,hw,hT,hbN,hZN,hoth⟩:=nset hbX hlo1 #[.int .i64 0,.int .i64 0,.int .i64 0,.string ⟨#[]⟩,.string ⟨#[]⟩,.int .i64 0,.slice none 0 0,.string ⟨#[]⟩,.int .i64 0] hZ1
       refine step_store_run (by rfl) 24 (.tmp 19) (.tmp 89) rfl (p:=⟨_,0,none⟩) rfl rfl (run_storeVar_row _ _ 24 24 _ #[.int .i64 0,.int .i64 0,.int .i64 0,.string ⟨#[]⟩,.string ⟨#[]⟩,.int .i64 0,.slice none 0 0,.string ⟨#[]⟩,.int .i64 0] hZ1 hsz9 rfl zoneA) ?_
       (try rw [hw])
       replace hZ2:=(hoth c2 hnz).trans hZ2
       clear hbX hZ1 hw hT hoth
       have hbX:=hbN
       have hZ1:=hZN
       clear hbN hZN
       refine hK.out _ _ ?_ (fun hHeld=>?_)
       ·exact (HF.out _ hbX).1
       clear hK K
       (try simp only [Act.put,pA,pB,pC])
       refine wpAnyH_ready (rs:=[12]) (by kernel_rfl) (by simp) ?_
       refine (readyR rfl (fun K hK=>?_) AllReadyH.nil)
       obtain ⟨xs,hw,hT,hbN,hZN,hoth⟩:=nset hbX hlo2 #[.int .i64 0,.int .i64 0,.int .i64 0,.string ⟨#[]⟩,.string ⟨#[]⟩,.int .i64 0,.slice none 0 0,.string ⟨#[]⟩,.int .i64 0] hZ2
       refine step_store_run (by rfl) 24 (.tmp 20) (.tmp 90) rfl (p:=⟨_,0,none⟩) rfl rfl (run_storeVar_row _ _ 24 24 _ #[.int .i64 0,.int .i64 0,.int .i64 0,.string ⟨#[]⟩,.string ⟨#[]⟩,.int .i64 0,.slice none 0 0,.string ⟨#[]⟩,.int .i64 0] hZ2 hsz9 rfl zoneA) ?_
       (try rw [hw])
       clear hbX hZ2 hw hT hoth
       have hbX:=hbN
       have hZ2:=hZN
       clear hbN hZN
       refine hK.out _ _ ?_ (fun hHeld=>?_)
       ·exact (HF.out _ hbX).1
       clear hK K
       (try simp only [Act.put,pA,pB,pC])
       refine run_in [13,14] ?_
       iterate 2 (refine run_e rfl (by kernel_rfl) (by rfl) (fun _ _ _ _ h=>h) (by assumption) ?_;apply Exists.intro;refine And.intro (fun w hSw=>?_) ?_;(focus (try dsimp only at hSw);go_simp;(try with_reducible rfl));(try simp only [Act.put,pA,pB,pC]))
       refine run_out ?_
       refine wpAnyH_done (by kernel_rfl) ?_ _
       go_wp2_with fail
       go_meet
       exact ⟨rfl,rfl,hbX⟩
      ·obtain ⟨c1,xa,hc,hw,hb,hZ1,hlo1⟩:=nbox hbX (.cells #[.int .i64 0,.int .i64 0,.int .i64 0,.string ⟨#[]⟩,.string ⟨#[]⟩,.int .i64 0,.slice none 0 0,.string ⟨#[]⟩,.int .i64 0] 24)
       go_simp
       (try rw [hw])
       (try rw [hc])
       have hnz:c2 ≠ c1:=by have:=(Array.getElem?_eq_some_iff.1 hZ2).1;omega
       replace hZ2:=(hb.block _ (Array.getElem?_eq_some_iff.1 hZ2).1).trans hZ2
       replace hbX:=hbX.trans (hb.mono hbX.size)
       clear hb hw hc
       refine hK.out _ _ ?_ (fun hHeld=>?_)
       ·exact (HF.out _ hbX).1
       clear hK K
       (try simp only [Act.put,pA,pB,pC])
       refine wpAnyH_ready (rs:=[3]) (by kernel_rfl) (by simp) ?_
       refine (readyR rfl (fun K hK=>?_) AllReadyH.nil)
       go_simp
       refine (HN40.out _ _ (HNo.out _ hbX)).mono ?_
       rintro e y2 ⟨rfl,hb⟩
       replace hZ1:=(hb.block _ (Array.getElem?_eq_some_iff.1 hZ1).1).trans hZ1
       replace hZ2:=(hb.block _ (Array.getElem?_eq_some_iff.1 hZ2).1).trans hZ2
       replace hbX:=hbX.trans (hb.mono hbX.size)
       clear hb
       go_wp2_with fail
       refine hK.out _ _ ?_ (fun hHeld=>?_)
       ·exact (HF.out _ hbX).1
       clear hK K
       (try simp only [Act.put,pA,pB,pC])
       refine run_in [4,5,6,7,8] ?_
       iterate 5 (refine run_e rfl (by kernel_rfl) (by rfl) (fun _ _ _ _ h=>h) (by assumption) ?_;apply Exists.intro;refine And.intro (fun w hSw=>?_) ?_;(focus (try dsimp only at hSw);go_simp;(try with_reducible rfl));(try simp only [Act.put,pA,pB,pC]))
       refine run_out ?_
       refine wpAnyH_ready (rs:=[11]) (by kernel_rfl) (by simp) ?_
       refine (readyR rfl (fun K hK=>?_) AllReadyH.nil)
       obtain ⟨xs,hw,hT,hbN,hZN,hoth⟩:=nset hbX hlo1 #[.int .i64 0,.int .i64 0,.int .i64 0,.string ⟨#[]⟩,.string ⟨#[]⟩,.int .i64 0,.slice none 0 0,.string ⟨#[]⟩,.int .i64 0] hZ1
       refine step_store_run (by rfl) 24 (.tmp 19) (.tmp 89) rfl (p:=⟨_,0,none⟩) rfl rfl (run_storeVar_row _ _ 24 24 _ #[.int .i64 0,.int .i64 0,.int .i64 0,.string ⟨#[]⟩,.string ⟨#[]⟩,.int .i64 0,.slice none 0 0,.string ⟨#[]⟩,.int .i64 0] hZ1 hsz9 rfl zoneA) ?_
       (try rw [hw])
       replace hZ2:=(hoth c2 hnz).trans hZ2
       clear hbX hZ1 hw hT hoth
       have hbX:=hbN
       have hZ1:=hZN
       clear hbN hZN
       refine hK.out _ _ ?_ (fun hHeld=>?_)
       ·exact (HF.out _ hbX).1
       clear hK K
       (try simp only [Act.put,pA,pB,pC])
       refine wpAnyH_ready (rs:=[12]) (by kernel_rfl) (by simp) ?_
       refine (readyR rfl (fun K hK=>?_) AllReadyH.nil)
       obtain ⟨xs,hw,hT,hbN,hZN,hoth⟩:=nset hbX hlo2 #[.int .i64 0,.int .i64 0,.int .i64 0,.string ⟨#[]⟩,.string ⟨#[]⟩,.int .i64 0,.slice none 0 0,.string ⟨#[]⟩,.int .i64 0] hZ2
       refine step_store_run (by rfl) 24 (.tmp 20) (.tmp 90) rfl (p:=⟨_,0,none⟩) rfl rfl (run_storeVar_row _ _ 24 24 _ #[.int .i64 0,.int .i64 0,.int .i64 0,.string ⟨#[]⟩,.string ⟨#[]⟩,.int .i64 0,.slice none 0 0,.string ⟨#[]⟩,.int .i64 0] hZ2 hsz9 rfl zoneA) ?_
       (try rw [hw])
       clear hbX hZ2 hw hT hoth
       have hbX:=hbN
       have hZ2:=hZN
       clear hbN hZN
       refine hK.out _ _ ?_ (fun hHeld=>?_)
       ·exact (HF.out _ hbX).1
       clear hK K
       (try simp only [Act.put,pA,pB,pC])
       refine run_in [13,14] ?_
       iterate 2 (refine run_e rfl (by kernel_rfl) (by rfl) (fun _ _ _ _ h=>h) (by assumption) ?_;apply Exists.intro;refine And.intro (fun w hSw=>?_) ?_;(focus (try dsimp only at hSw);go_simp;(try with_reducible rfl));(try simp only [Act.put,pA,pB,pC]))
       refine run_out ?_
       refine wpAnyH_done (by kernel_rfl) ?_ _
       go_wp2_with fail
       go_meet
       exact ⟨rfl,rfl,hbX⟩
     ·obtain ⟨c1,xa,hc,hw,hb,hZ1,hlo1⟩:=nbox hbX (.cells #[.int .i64 0,.int .i64 0,.int .i64 0,.string ⟨#[]⟩,.string ⟨#[]⟩,.int .i64 0,.slice none 0 0,.string ⟨#[]⟩,.int .i64 0] 24)
      go_simp
      (try rw [hw])
      (try rw [hc])
      have hnz:c2 ≠ c1:=by have:=(Array.getElem?_eq_some_iff.1 hZ2).1;omega
      replace hZ2:=(hb.block _ (Array.getElem?_eq_some_iff.1 hZ2).1).trans hZ2
      replace hbX:=hbX.trans (hb.mono hbX.size)
      clear hb hw hc
      refine hK.out _ _ ?_ (fun hHeld=>?_)
      ·exact (HF.out _ hbX).1
      clear hK K
      (try simp only [Act.put,pA,pB,pC])
      refine wpAnyH_ready (rs:=[1]) (by kernel_rfl) (by simp) ?_
      refine (readyR rfl (fun K hK=>?_) AllReadyH.nil)
      go_simp
      refine (HRf.out _).mono ?_
      rintro e y1 ⟨rfl,hb⟩
      replace hZ1:=(hb.block _ (Array.getElem?_eq_some_iff.1 hZ1).1).trans hZ1
      replace hZ2:=(hb.block _ (Array.getElem?_eq_some_iff.1 hZ2).1).trans hZ2
      replace hbX:=hbX.trans (hb.mono hbX.size)
      clear hb
      go_wp2_with fail
      refine hK.out _ _ ?_ (fun hHeld=>?_)
      ·exact (HF.out _ hbX).1
      clear hK K
      (try simp only [Act.put,pA,pB,pC])
      refine wpAnyH_ready (rs:=[3]) (by kernel_rfl) (by simp) ?_
      refine (readyR rfl (fun K hK=>?_) AllReadyH.nil)
      go_simp
      refine (HN40.out _ _ (HNo.out _ hbX)).mono ?_
      rintro e y2 ⟨rfl,hb⟩
      replace hZ1:=(hb.block _ (Array.getElem?_eq_some_iff.1 hZ1).1).trans hZ1
      replace hZ2:=(hb.block _ (Array.getElem?_eq_some_iff.1 hZ2).1).trans hZ2
      replace hbX:=hbX.trans (hb.mono hbX.size)
      clear hb
      go_wp2_with fail
      refine hK.out _ _ ?_ (fun hHeld=>?_)
      ·exact (HF.out _ hbX).1
      clear hK K
      (try simp only [Act.put,pA,pB,pC])
      refine run_in [4,5,6,7,8] ?_
      iterate 5 (refine run_e rfl (by kernel_rfl) (by rfl) (fun _ _ _ _ h=>h) (by assumption) ?_;apply Exists.intro;refine And.intro (fun w hSw=>?_) ?_;(focus (try dsimp only at hSw);go_simp;(try with_reducible rfl));(try simp only [Act.put,pA,pB,pC]))
      refine run_out ?_
      refine wpAnyH_ready (rs:=[11]) (by kernel_rfl) (by simp) ?_
      refine (readyR rfl (fun K hK=>?_) AllReadyH.nil)
      obtain ⟨xs,hw,hT,hbN,hZN,hoth⟩:=nset hbX hlo1 #[.int .i64 0,.int .i64 0,.int .i64 0,.string ⟨#[]⟩,.string ⟨#[]⟩,.int .i64 0,.slice none 0 0,.string ⟨#[]⟩,.int .i64 0] hZ1
      refine step_store_run (by rfl) 24 (.tmp 19) (.tmp 89) rfl (p:=⟨_,0,none⟩) rfl rfl (run_storeVar_row _ _ 24 24 _ #[.int .i64 0,.int .i64 0,.int .i64 0,.string ⟨#[]⟩,.string ⟨#[]⟩,.int .i64 0,.slice none 0 0,.string ⟨#[]⟩,.int .i64 0] hZ1 hsz9 rfl zoneA) ?_
      (try rw [hw])
      replace hZ2:=(hoth c2 hnz).trans hZ2
      clear hbX hZ1 hw hT hoth
      have hbX:=hbN
      have hZ1:=hZN
      clear hbN hZN
      refine hK.out _ _ ?_ (fun hHeld=>?_)
      ·exact (HF.out _ hbX).1
      clear hK K
      (try simp only [Act.put,pA,pB,pC])
      refine wpAnyH_ready (rs:=[12]) (by kernel_rfl) (by simp) ?_
      refine (readyR rfl (fun K hK=>?_) AllReadyH.nil)
      obtain ⟨xs,hw,hT,hbN,hZN,hoth⟩:=nset hbX hlo2 #[.int .i64 0,.int .i64 0,.int .i64 0,.string ⟨#[]⟩,.string ⟨#[]⟩,.int .i64 0,.slice none 0 0,.string ⟨#[]⟩,.int .i64 0] hZ2
      refine step_store_run (by rfl) 24 (.tmp 20) (.tmp 90) rfl (p:=⟨_,0,none⟩) rfl rfl (run_storeVar_row _ _ 24 24 _ #[.int .i64 0,.int .i64 0,.int .i64 0,.string ⟨#[]⟩,.string ⟨#[]⟩,.int .i64 0,.slice none 0 0,.string ⟨#[]⟩,.int .i64 0] hZ2 hsz9 rfl zoneA) ?_
      (try rw [hw])
      clear hbX hZ2 hw hT hoth
      have hbX:=hbN
      have hZ2:=hZN
      clear hbN hZN
      refine hK.out _ _ ?_ (fun hHeld=>?_)
      ·exact (HF.out _ hbX).1
      clear hK K
      (try simp only [Act.put,pA,pB,pC])
      refine run_in [13,14] ?_
      iterate 2 (refine run_e rfl (by kernel_rfl) (by rfl) (fun _ _ _ _ h=>h) (by assumption) ?_;apply Exists.intro;refine And.intro (fun w hSw=>?_) ?_;(focus (try dsimp only at hSw);go_simp;(try with_reducible rfl));(try simp only [Act.put,pA,pB,pC]))
      refine run_out ?_
      refine wpAnyH_done (by kernel_rfl) ?_ _
      go_wp2_with fail
      go_meet
      exact ⟨rfl,rfl,hbX⟩
   case rest=>as_aux_lemma =>
   clear hbX
   obtain ⟨rfl,rfl,hbX⟩:=hcut
   go_wp2_with fail
   refine (HRf.out _).mono ?_
   rintro e x4 ⟨rfl,hb⟩
   replace hbX:=hbX.trans (hb.mono hbX.size)
   clear hb
   go_wp2_with fail
   refine (HN31.out _ _ (HNo.out _ hbX)).mono ?_
   rintro e x5 ⟨rfl,hb⟩
   replace hbX:=hbX.trans (hb.mono hbX.size)
   clear hb
   go_wp2_with fail
   refine (HRf.out _).mono ?_
   rintro e x6 ⟨rfl,hb⟩
   replace hbX:=hbX.trans (hb.mono hbX.size)
   clear hb
   go_wp2_with fail
   refine (HN37.out _ _ (HNo.out _ hbX)).mono ?_
   rintro e x7 ⟨rfl,hb⟩
   replace hbX:=hbX.trans (hb.mono hbX.size)
   clear hb
   obtain ⟨hb2,hza⟩:=next_box hbX (.cells #[.int .i64 0,.int .i64 0,.int .i64 0,.string ⟨#[]⟩,.string ⟨#[]⟩,.int .i64 0,.slice none 0 0,.string ⟨#[]⟩,.int .i64 0] 24)
   have HZa:=Lib.hid hza
   have hlx:=hbX.size
   replace hbX:=set_box (hbX.trans (hb2.mono hbX.size)) hlx #[.int .i64 0,.int .i64 0,.int .i64 0,.string ⟨#[]⟩,.string ⟨#[]⟩,.int .i64 0,.slice none 0 0,.string ⟨#[]⟩,.int .i64 0]
   clear hb2 hza hlx
   go_upto_region 16 with (first
    | (refine wpList_store_row rfl 24 (.tmp 25) (.tmp 103) rfl x7.heap.size #[.int .i64 0,.int .i64 0,.int .i64 0,.string ⟨#[]⟩,.string ⟨#[]⟩,.int .i64 0,.slice none 0 0,.string ⟨#[]⟩,.int .i64 0] rfl rfl 24 _ HZa.out hsz9 rfl zoneA ?_))
   clear HZa
   generalize ((x7.alloc (.cells #[.int .i64 0,.int .i64 0,.int .i64 0,.string ⟨#[]⟩,.string ⟨#[]⟩,.int .i64 0,.slice none 0 0,.string ⟨#[]⟩,.int .i64 0] 24)).setRow x7.heap.size #[.int .i64 0,.int .i64 0,.int .i64 0,.string ⟨#[]⟩,.string ⟨#[]⟩,.int .i64 0,.slice none 0 0,.string ⟨#[]⟩,.int .i64 0]) = x8 at *
   replace hbX:=hbX.trans ((belowD (Below.refl x8.heap.size x8)).mono hbX.size)
   refine wp_region_held_drew (S:=(fun w'=>w'.rangeAt b1 0 [.int .i64 kk,.int .i64 ki,.int .i64 kg,.string kn,.string kf,.int .i64 ka,.slice pk nk ck,.string kb,.int .i64 kz]∧w'.rangeAt b2 0 [.int .i64 vk,.int .i64 vi,.int .i64 vg,.string vn,.string vf,.int .i64 va,.slice pv nv cv,.string vb,.int .i64 vz])) (by kernel_rfl) ?_ (fun hHeld=>?_)
   ·exact HF.out _ hbX
   generalize x8.drew = wd at *
   refine run_in [0,3] ?_
   iterate 2 (refine run_e rfl (by kernel_rfl) (by rfl) (fun _ _ _ _ h=>h) (by assumption) ?_;apply Exists.intro;refine And.intro (fun w hSw=>?_) ?_;(focus (try dsimp only at hSw);go_simp;(try with_reducible rfl));(try simp only [Act.put,pA,pB,pC]))
   refine run_out ?_
   refine wpAnyH_ready (rs:=[1]) (by kernel_rfl) (by simp) ?_
   refine (readyR rfl (fun K hK=>?_) AllReadyH.nil)
   go_simp
   refine (HRf.out _).mono ?_
   rintro e y1 ⟨rfl,hb⟩
   replace hbX:=hbX.trans (hb.mono hbX.size)
   clear hb
   go_wp2_with fail
   refine hK.out _ _ ?_ (fun hHeld=>?_)
   ·exact HF.out _ hbX
   clear hK K
   (try simp only [Act.put,pA,pB,pC])
   refine wpAnyH_ready (rs:=[2]) (by kernel_rfl) (by simp) ?_
   refine (readyR rfl (fun K hK=>?_) AllReadyH.nil)
   go_simp
   refine (HPd.out _).mono ?_
   rintro e y1 ⟨rfl,hb⟩
   replace hbX:=hbX.trans (hb.mono hbX.size)
   clear hb
   go_wp2_with fail
   refine hK.out _ _ ?_ (fun hHeld=>?_)
   ·exact HF.out _ hbX
   clear hK K
   (try simp only [Act.put,pA,pB,pC])
   refine wpAnyH_ready (rs:=[4]) (by kernel_rfl) (by simp) ?_
   refine (readyR rfl (fun K hK=>?_) AllReadyH.nil)
   go_simp
   refine (HN17.out _ _ (HNo.out _ hbX)).mono ?_
   rintro e y2 ⟨rfl,hb⟩
   replace hbX:=hbX.trans (hb.mono hbX.size)
   clear hb
   go_wp2_with fail
   refine hK.out _ _ ?_ (fun hHeld=>?_)
   ·exact HF.out _ hbX
   clear hK K
   (try simp only [Act.put,pA,pB,pC])
   refine run_in [5,6,7,9,10] ?_
   iterate 3 (refine run_e rfl (by kernel_rfl) (by rfl) (fun _ _ _ _ h=>h) (by assumption) ?_;apply Exists.intro;refine And.intro (fun w hSw=>?_) ?_;(focus (try dsimp only at hSw);go_simp;(try with_reducible rfl));(try simp only [Act.put,pA,pB,pC]))
   refine run_r rfl (by kernel_rfl) (fun _ _ _ _ h=>h) (by assumption) (yieldsIf_load_mid (by rfl) 24 (.tmp 3) rfl b1 0 rfl [.int .i64 kk,.int .i64 ki,.int .i64 kg,.string kn,.string kf,.int .i64 ka,.slice pk nk ck,.string kb,.int .i64 kz] _ (fun w hs=>hs.1) Tryz.underlying24 rfl hsz9) ?_
   (try simp only [Act.put,pA,pB,pC])
   refine run_r rfl (by kernel_rfl) (fun _ _ _ _ h=>h) (by assumption) (yieldsIf_load_mid (by rfl) 24 (.tmp 4) rfl b2 0 rfl [.int .i64 vk,.int .i64 vi,.int .i64 vg,.string vn,.string vf,.int .i64 va,.slice pv nv cv,.string vb,.int .i64 vz] _ (fun w hs=>hs.2) Tryz.underlying24 rfl hsz9) ?_
   (try simp only [Act.put,pA,pB,pC])
   refine run_out ?_
   refine wpAnyH_ready (rs:=[8]) (by kernel_rfl) (by simp) ?_
   refine (readyR rfl (fun K hK=>?_) AllReadyH.nil)
   go_simp
   refine (HRf.out _).mono ?_
   rintro e y1 ⟨rfl,hb⟩
   replace hbX:=hbX.trans (hb.mono hbX.size)
   clear hb
   go_wp2_with fail
   refine hK.out _ _ ?_ (fun hHeld=>?_)
   ·exact HF.out _ hbX
   clear hK K
   (try simp only [Act.put,pA,pB,pC])
   refine wpAnyH_ready (rs:=[11]) (by kernel_rfl) (by simp) ?_
   refine (readyR rfl (fun K hK=>?_) AllReadyH.nil)
   go_simp
   refine (HN24.out _ _ (HNo.out _ hbX)).mono ?_
   rintro e y2 ⟨rfl,hb⟩
   replace hbX:=hbX.trans (hb.mono hbX.size)
   clear hb
   go_wp2_with fail
   refine hK.out _ _ ?_ (fun hHeld=>?_)
   ·exact HF.out _ hbX
   clear hK K
   (try simp only [Act.put,pA,pB,pC])
   refine run_in [12,13,14,15] ?_
   iterate 4 (refine run_e rfl (by kernel_rfl) (by rfl) (fun _ _ _ _ h=>h) (by assumption) ?_;apply Exists.intro;refine And.intro (fun w hSw=>?_) ?_;(focus (try dsimp only at hSw);go_simp;(try with_reducible rfl));(try simp only [Act.put,pA,pB,pC]))
   refine run_out ?_
   refine wpAnyH_ready (rs:=[16]) (by kernel_rfl) (by simp) ?_
   refine (readyR rfl (fun K hK=>?_) AllReadyH.nil)
   go_simp
   refine (HRf.out _).mono ?_
   rintro e y1 ⟨rfl,hb⟩
   replace hbX:=hbX.trans (hb.mono hbX.size)
   clear hb
   go_wp2_with fail
   refine hK.out _ _ ?_ (fun hHeld=>?_)
   ·exact HF.out _ hbX
   clear hK K
   (try simp only [Act.put,pA,pB,pC])
   refine wpAnyH_ready (rs:=[17]) (by kernel_rfl) (by simp) ?_
   refine (readyR rfl (fun K hK=>?_) AllReadyH.nil)
   go_simp
   refine (HN41.out _ _ (HNo.out _ hbX)).mono ?_
   rintro e y2 ⟨rfl,hb⟩
   replace hbX:=hbX.trans (hb.mono hbX.size)
   clear hb
   go_wp2_with fail
   refine hK.out _ _ ?_ (fun hHeld=>?_)
   ·exact HF.out _ hbX
   clear hK K
   (try simp only [Act.put,pA,pB,pC])
   refine run_in [18,19,20,21,22,23,24,25,26,27,28,29,30,31,32,33,34,35,36,37,38,39,40,41,42,43,44,45,46,47,48,49,50,51,52,53,54,55,56,57,58,59,60,61] ?_
   iterate 44 (refine run_e rfl (by kernel_rfl) (by rfl) (fun _ _ _ _ h=>h) (by assumption) ?_;apply Exists.intro;refine And.intro (fun w hSw=>?_) ?_;(focus (try dsimp only at hSw);go_simp;(try with_reducible rfl));(try simp only [Act.put,pA,pB,pC]))
   refine run_out ?_
   refine wpAnyH_ready (rs:=[62]) (by kernel_rfl) (by simp) ?_
   refine (readyR rfl (fun K hK=>?_) AllReadyH.nil)
   go_simp
   refine (HPd.out _).mono ?_
   rintro e y1 ⟨rfl,hb⟩
   replace hbX:=hbX.trans (hb.mono hbX.size)
   clear hb
   go_wp2_with fail
   refine hK.out _ _ ?_ (fun hHeld=>?_)
   ·exact HF.out _ hbX
   clear hK K
   (try simp only [Act.put,pA,pB,pC])
   refine wpAnyH_ready (rs:=[63]) (by kernel_rfl) (by simp) ?_
   refine (readyR rfl (fun K hK=>?_) AllReadyH.nil)
   go_simp
   refine (HN33.out _ _ (HNo.out _ hbX)).mono ?_
   rintro e y2 ⟨rfl,hb⟩
   replace hbX:=hbX.trans (hb.mono hbX.size)
   clear hb
   go_wp2_with fail
   refine hK.out _ _ ?_ (fun hHeld=>?_)
   ·exact HF.out _ hbX
   clear hK K
   (try simp only [Act.put,pA,pB,pC])
   refine run_in [64,65,66] ?_
   iterate 3 (refine run_e rfl (by kernel_rfl) (by rfl) (fun _ _ _ _ h=>h) (by assumption) ?_;apply Exists.intro;refine And.intro (fun w hSw=>?_) ?_;(focus (try dsimp only at hSw);go_simp;(try with_reducible rfl));(try simp only [Act.put,pA,pB,pC]))
   refine run_out ?_
   refine wpAnyH_done (by kernel_rfl) ?_ _
   go_wp2_with fail
   go_roundg (2 - (i + 1))
   case measure=>have:=HM.out;omega
   case rel=>exact Lib.hid ⟨i + 1,by go_num,by omega,rfl,hbX⟩
  ·obtain rfl:i = 2:=by omega
   have r2:¬ ((2:Int) < 2):=by omega
   have hb0:=hbX
   have HVk3:=Lib.hid (fun W (hW:Below w5.heap.size w5 W)=>HVk2.out W (HB5.out.trans (hW.mono HB5.out.size)))
   have HVv3:=Lib.hid (fun W (hW:Below w5.heap.size w5 W)=>HVv2.out W (HB5.out.trans (hW.mono HB5.out.size)))
   have HEnd:=Lib.hid (fun W (hW:Below w5.heap.size w5 W)=>HB5.out.trans (hW.mono HB5.out.size))
   clear HVk2 HVv2 HN32 HN22 HN39 HN40 HN31 HN37 HN17 HN24 HN41 HN33 HQ HM hlt hi
   go_wp2_with fail
   clear r2
   refine (HNew.out _).mono ?_
   rintro e w18 ⟨z,rfl,hSt⟩
   clear HNew
   go_wp2_with fail
   refine (HRf.out _).mono ?_
   rintro e y1 ⟨rfl,hb⟩
   replace hSt:=hSt.below hb
   clear hb
   go_wp2_with fail
   refine (HPd.out _).mono ?_
   rintro e y2 ⟨rfl,hb⟩
   replace hSt:=hSt.below hb
   clear hb
   go_wp2_with fail
   refine (HMk.out _ _ _ hSt).mono ?_
   rintro e y3 ⟨rfl,hSn⟩
   clear hSt
   go_upto_region 21 with (fail)
   clear HMk
   have hbX:=hb0.trans (hSn.base.mono hb0.size)
   have hbz:=hSn.size
   obtain ⟨bx,hyz⟩:∃ b,y3.heap.size = b:=⟨_,rfl⟩
   have hX:=hSn.st.x (G:=fun g=>bx ≤ g) (fun g hg=>by omega)
   have hBx:bx ≤ y3.heap.size:=by omega
   have hzx:wr.heap.size ≤ bx:=by omega
   clear hyz hSn
   go_cut [28,29] from 183 to 187 (fun s28 s29 wc=>∃ c1 c2 Fx Fy px cx py cy,s28 = .pointer (some ⟨c1,0,none⟩)∧s29 = .pointer (some ⟨c2,0,none⟩)∧KpS w5 wr.heap.size z (oneA hs []) k v (.slice pk nk ck) (.slice pv nv cv) Fx Fy (.slice px nk cx) (.slice py nv cy) wc∧wc.heap[c1]? = some (.cells #[.int .i64 kk,.int .i64 ki,.int .i64 kg,.string kn,.string kf,.int .i64 ka,.slice px nk cx,.string kb,.int .i64 kz] 24)∧wc.heap[c2]? = some (.cells #[.int .i64 vk,.int .i64 vi,.int .i64 vg,.string vn,.string vf,.int .i64 va,.slice py nv cy,.string vb,.int .i64 vz] 24)∧¬ Fx c1∧¬ Fy c1∧¬ Fx c2∧¬ Fy c2)
   case first=>as_aux_lemma =>
    have hd:=belowD (Below.refl y3.heap.size y3)
    replace hX:=hX.below hd
    replace hBx:=Nat.le_trans hBx hd.size
    replace hbX:=hbX.trans (hd.mono hbX.size)
    clear hd
    refine wp_region_held_drew (S:=(fun w'=>w'.rangeAt b1 0 [.int .i64 kk,.int .i64 ki,.int .i64 kg,.string kn,.string kf,.int .i64 ka,.slice pk nk ck,.string kb,.int .i64 kz]∧w'.rangeAt b2 0 [.int .i64 vk,.int .i64 vi,.int .i64 vg,.string vn,.string vf,.int .i64 va,.slice pv nv cv,.string vb,.int .i64 vz])) (by kernel_rfl) ?_ (fun hHeld=>?_)
    ·exact HF.out _ hbX
    generalize y3.drew = wd at *
    refine run_in [0,2] ?_
    refine run_r rfl (by kernel_rfl) (fun _ _ _ _ h=>h) (by assumption) (yieldsIf_load_mid (by rfl) 24 (.tmp 3) rfl b1 0 rfl [.int .i64 kk,.int .i64 ki,.int .i64 kg,.string kn,.string kf,.int .i64 ka,.slice pk nk ck,.string kb,.int .i64 kz] _ (fun w hs=>hs.1) Tryz.underlying24 rfl hsz9) ?_
    (try simp only [Act.put,pA,pB,pC])
    refine run_r rfl (by kernel_rfl) (fun _ _ _ _ h=>h) (by assumption) (yieldsIf_load_mid (by rfl) 24 (.tmp 4) rfl b2 0 rfl [.int .i64 vk,.int .i64 vi,.int .i64 vg,.string vn,.string vf,.int .i64 va,.slice pv nv cv,.string vb,.int .i64 vz] _ (fun w hs=>hs.2) Tryz.underlying24 rfl hsz9) ?_
    (try simp only [Act.put,pA,pB,pC])
    refine run_out ?_
    refine wpAnyH_ready (rs:=[1,4,5]) (by kernel_rfl) (by simp) ?_
    refine (readyR rfl (fun K hK=>?_) (readyR rfl (fun K hK=>?_) (readyR rfl (fun K hK=>?_) AllReadyH.nil)))
    ·go_simp
     refine (HLk2.out w5 HB5.out bx (Nat.le_trans hb0.size hzx) _ hbX hBx (Nat.lt_of_lt_of_le h0w hbX.size)).mono ?_
     rintro e y1 ⟨Fx,px,cx,rfl,hn,hb,hf⟩
     replace hX:=hX.below hb
     replace hBx:=Nat.le_trans hBx hb.size
     replace hbX:=hbX.trans (hb.mono hbX.size)
     have hx:=hn
     clear hn hb hf
     go_wp2_with fail
     refine hK.out _ _ ?_ (fun hHeld=>?_)
     ·exact HF.out _ hbX
     clear hK K
     (try simp only [Act.put,pA,pB,pC])
     refine wpAnyH_ready (rs:=[3,4,5]) (by kernel_rfl) (by simp) ?_
     refine (readyR rfl (fun K hK=>?_) (readyR rfl (fun K hK=>?_) (readyR rfl (fun K hK=>?_) AllReadyH.nil)))
     ·go_simp
      refine (HLv2.out w5 HB5.out bx (Nat.le_trans hb0.size hzx) _ hbX hBx (Nat.lt_of_lt_of_le h0w hbX.size)).mono ?_
      rintro e y1 ⟨Fy,py,cy,rfl,hn,hb,hf⟩
      have hne:∀ g,Fx g→¬ Fy g:=fun g h1 h2=>by have:=(hx.inr g h1).2;have:=hf g h2;omega
      replace hx:=hx.below hbX.size hb
      replace hX:=hX.below hb
      replace hBx:=Nat.le_trans hBx hb.size
      replace hbX:=hbX.trans (hb.mono hbX.size)
      have hy:=hn
      clear hn hb hf
      go_wp2_with fail
      refine hK.out _ _ ?_ (fun hHeld=>?_)
      ·exact HF.out _ hbX
      clear hK K
      (try simp only [Act.put,pA,pB,pC])
      refine wpAnyH_ready (rs:=[4,5]) (by kernel_rfl) (by simp) ?_
      refine (readyR rfl (fun K hK=>?_) (readyR rfl (fun K hK=>?_) AllReadyH.nil))
      ·obtain ⟨c1,xa,hc,hw,hb,hZ1,hlo1⟩:=nbox hbX (.cells #[.int .i64 0,.int .i64 0,.int .i64 0,.string ⟨#[]⟩,.string ⟨#[]⟩,.int .i64 0,.slice none 0 0,.string ⟨#[]⟩,.int .i64 0] 24)
       go_simp
       (try rw [hw])
       (try rw [hc])
       have hnx1:¬ Fx c1:=hc ▸ hx.fresh
       have hny1:¬ Fy c1:=hc ▸ hy.fresh
       have hbo1:bx ≤ c1:=hc ▸ hBx
       replace hx:=hx.below hbX.size hb
       replace hy:=hy.below hbX.size hb
       replace hX:=hX.below hb
       replace hBx:=Nat.le_trans hBx hb.size
       replace hbX:=hbX.trans (hb.mono hbX.size)
       clear hb hw hc
       refine hK.out _ _ ?_ (fun hHeld=>?_)
       ·exact HF.out _ hbX
       clear hK K
       (try simp only [Act.put,pA,pB,pC])
       refine wpAnyH_ready (rs:=[5]) (by kernel_rfl) (by simp) ?_
       refine (readyR rfl (fun K hK=>?_) AllReadyH.nil)
       obtain ⟨c2,xa,hc,hw,hb,hZ2,hlo2⟩:=nbox hbX (.cells #[.int .i64 0,.int .i64 0,.int .i64 0,.string ⟨#[]⟩,.string ⟨#[]⟩,.int .i64 0,.slice none 0 0,.string ⟨#[]⟩,.int .i64 0] 24)
       go_simp
       (try rw [hw])
       (try rw [hc])
       have hnx2:¬ Fx c2:=hc ▸ hx.fresh
       have hny2:¬ Fy c2:=hc ▸ hy.fresh
       have hnz:c1 ≠ c2:=by have:=(Array.getElem?_eq_some_iff.1 hZ1).1;omega
       have hbo2:bx ≤ c2:=hc ▸ hBx
       replace hx:=hx.below hbX.size hb
       replace hy:=hy.below hbX.size hb
       replace hZ1:=(hb.block _ (Array.getElem?_eq_some_iff.1 hZ1).1).trans hZ1
       replace hX:=hX.below hb
       replace hBx:=Nat.le_trans hBx hb.size
       replace hbX:=hbX.trans (hb.mono hbX.size)
       clear hb hw hc
       refine hK.out _ _ ?_ (fun hHeld=>?_)
       ·exact HF.out _ hbX
       clear hK K
       (try simp only [Act.put,pA,pB,pC])
       refine wpAnyH_ready (rs:=[6]) (by kernel_rfl) (by simp) ?_
       refine (readyR rfl (fun K hK=>?_) AllReadyH.nil)
       have hoS:(#[.int .i64 kk,.int .i64 ki,.int .i64 kg,.string kn,.string kf,.int .i64 ka,.slice px nk cx,.string kb,.int .i64 kz]:Array Value).all (·.oneCell') = true:=all_oneCell_toArray (nineL_one (f:=⟨kk,ki,kg,kn,kf,ka,kb,kz⟩) (u:=.slice px nk cx) rfl)
       obtain ⟨xs,hw,hT,hbN,hZN,hoth⟩:=nset hbX hlo1 #[.int .i64 kk,.int .i64 ki,.int .i64 kg,.string kn,.string kf,.int .i64 ka,.slice px nk cx,.string kb,.int .i64 kz] hZ1
       refine step_store_run (by rfl) 24 (.tmp 28) (.tmp 184) rfl (p:=⟨_,0,none⟩) rfl rfl (run_storeVar_row _ _ 24 24 _ #[.int .i64 kk,.int .i64 ki,.int .i64 kg,.string kn,.string kf,.int .i64 ka,.slice px nk cx,.string kb,.int .i64 kz] hZ1 hsz9 rfl hoS) ?_
       (try rw [hw])
       replace hx:=hx.touch hbX.size hT (fun g (e:g = c1)=>by rw [e];exact hnx1) (fun g (e:g = c1)=>by rw [e];exact hlo1)
       replace hy:=hy.touch hbX.size hT (fun g (e:g = c1)=>by rw [e];exact hny1) (fun g (e:g = c1)=>by rw [e];exact hlo1)
       replace hX:=hX.touchS hT (fun g (e:g = c1)=>by rw [e];exact ⟨hbo1,box24 hZ1⟩)
       replace hZ2:=(hoth c2 (Ne.symm hnz)).trans hZ2
       replace hBx:=Nat.le_trans hBx hT.size
       clear hbX hZ1 hw hT hoth
       have hbX:=hbN
       have hZ1:=hZN
       clear hbN hZN
       clear hoS
       refine hK.out _ _ ?_ (fun hHeld=>?_)
       ·exact HF.out _ hbX
       clear hK K
       (try simp only [Act.put,pA,pB,pC])
       refine wpAnyH_ready (rs:=[7]) (by kernel_rfl) (by simp) ?_
       refine (readyR rfl (fun K hK=>?_) AllReadyH.nil)
       have hoS:(#[.int .i64 vk,.int .i64 vi,.int .i64 vg,.string vn,.string vf,.int .i64 va,.slice py nv cy,.string vb,.int .i64 vz]:Array Value).all (·.oneCell') = true:=all_oneCell_toArray (nineL_one (f:=⟨vk,vi,vg,vn,vf,va,vb,vz⟩) (u:=.slice py nv cy) rfl)
       obtain ⟨xs,hw,hT,hbN,hZN,hoth⟩:=nset hbX hlo2 #[.int .i64 vk,.int .i64 vi,.int .i64 vg,.string vn,.string vf,.int .i64 va,.slice py nv cy,.string vb,.int .i64 vz] hZ2
       refine step_store_run (by rfl) 24 (.tmp 29) (.tmp 186) rfl (p:=⟨_,0,none⟩) rfl rfl (run_storeVar_row _ _ 24 24 _ #[.int .i64 vk,.int .i64 vi,.int .i64 vg,.string vn,.string vf,.int .i64 va,.slice py nv cy,.string vb,.int .i64 vz] hZ2 hsz9 rfl hoS) ?_
       (try rw [hw])
       replace hx:=hx.touch hbX.size hT (fun g (e:g = c2)=>by rw [e];exact hnx2) (fun g (e:g = c2)=>by rw [e];exact hlo2)
       replace hy:=hy.touch hbX.size hT (fun g (e:g = c2)=>by rw [e];exact hny2) (fun g (e:g = c2)=>by rw [e];exact hlo2)
       replace hX:=hX.touchS hT (fun g (e:g = c2)=>by rw [e];exact ⟨hbo2,box24 hZ2⟩)
       replace hZ1:=(hoth c1 hnz).trans hZ1
       replace hBx:=Nat.le_trans hBx hT.size
       clear hbX hZ2 hw hT hoth
       have hbX:=hbN
       have hZ2:=hZN
       clear hbN hZN
       clear hoS
       refine hK.out _ _ ?_ (fun hHeld=>?_)
       ·exact HF.out _ hbX
       clear hK K
       (try simp only [Act.put,pA,pB,pC])
       refine wpAnyH_done (by kernel_rfl) ?_ _
       go_wp2_with fail
       go_meet
       exact ⟨_,_,Fx,Fy,_,_,_,_,rfl,rfl,⟨hX.less (fun g e=>by rcases e with e | e;exact (hx.inr g e).1;exact (hy.inr g e).1),Nat.le_trans hzx hBx,hb0.size,hbX,hx.weak hb0.size hzx,hy.weak hb0.size hzx,hne⟩,hZ1,hZ2,hnx1,hny1,hnx2,hny2⟩
      ·obtain ⟨c2,xa,hc,hw,hb,hZ2,hlo2⟩:=nbox hbX (.cells #[.int .i64 0,.int .i64 0,.int .i64 0,.string ⟨#[]⟩,.string ⟨#[]⟩,.int .i64 0,.slice none 0 0,.string ⟨#[]⟩,.int .i64 0] 24)
       go_simp
       (try rw [hw])
       (try rw [hc])
       have hnx2:¬ Fx c2:=hc ▸ hx.fresh
       have hny2:¬ Fy c2:=hc ▸ hy.fresh
       have hbo2:bx ≤ c2:=hc ▸ hBx
       replace hx:=hx.below hbX.size hb
       replace hy:=hy.below hbX.size hb
       replace hX:=hX.below hb
       replace hBx:=Nat.le_trans hBx hb.size
       replace hbX:=hbX.trans (hb.mono hbX.size)
       clear hb hw hc
       refine hK.out _ _ ?_ (fun hHeld=>?_)
       ·exact HF.out _ hbX
       clear hK K
       (try simp only [Act.put,pA,pB,pC])
       refine wpAnyH_ready (rs:=[4]) (by kernel_rfl) (by simp) ?_
       refine (readyR rfl (fun K hK=>?_) AllReadyH.nil)
       obtain ⟨c1,xa,hc,hw,hb,hZ1,hlo1⟩:=nbox hbX (.cells #[.int .i64 0,.int .i64 0,.int .i64 0,.string ⟨#[]⟩,.string ⟨#[]⟩,.int .i64 0,.slice none 0 0,.string ⟨#[]⟩,.int .i64 0] 24)
       go_simp
       (try rw [hw])
       (try rw [hc])
       have hnx1:¬ Fx c1:=hc ▸ hx.fresh
       have hny1:¬ Fy c1:=hc ▸ hy.fresh
       have hnz:c2 ≠ c1:=by have:=(Array.getElem?_eq_some_iff.1 hZ2).1;omega
       have hbo1:bx ≤ c1:=hc ▸ hBx
       replace hx:=hx.below hbX.size hb
       replace hy:=hy.below hbX.size hb
       replace hZ2:=(hb.block _ (Array.getElem?_eq_some_iff.1 hZ2).1).trans hZ2
       replace hX:=hX.below hb
       replace hBx:=Nat.le_trans hBx hb.size
       replace hbX:=hbX.trans (hb.mono hbX.size)
       clear hb hw hc
       refine hK.out _ _ ?_ (fun hHeld=>?_)
       ·exact HF.out _ hbX
       clear hK K
       (try simp only [Act.put,pA,pB,pC])
       refine wpAnyH_ready (rs:=[6]) (by kernel_rfl) (by simp) ?_
       refine (readyR rfl (fun K hK=>?_) AllReadyH.nil)
       have hoS:(#[.int .i64 kk,.int .i64 ki,.int .i64 kg,.string kn,.string kf,.int .i64 ka,.slice px nk cx,.string kb,.int .i64 kz]:Array Value).all (·.oneCell') = true:=all_oneCell_toArray (nineL_one (f:=⟨kk,ki,kg,kn,kf,ka,kb,kz⟩) (u:=.slice px nk cx) rfl)
       obtain ⟨xs,hw,hT,hbN,hZN,hoth⟩:=nset hbX hlo1 #[.int .i64 kk,.int .i64 ki,.int .i64 kg,.string kn,.string kf,.int .i64 ka,.slice px nk cx,.string kb,.int .i64 kz] hZ1
       refine step_store_run (by rfl) 24 (.tmp 28) (.tmp 184) rfl (p:=⟨_,0,none⟩) rfl rfl (run_storeVar_row _ _ 24 24 _ #[.int .i64 kk,.int .i64 ki,.int .i64 kg,.string kn,.string kf,.int .i64 ka,.slice px nk cx,.string kb,.int .i64 kz] hZ1 hsz9 rfl hoS) ?_
       (try rw [hw])
       replace hx:=hx.touch hbX.size hT (fun g (e:g = c1)=>by rw [e];exact hnx1) (fun g (e:g = c1)=>by rw [e];exact hlo1)
       replace hy:=hy.touch hbX.size hT (fun g (e:g = c1)=>by rw [e];exact hny1) (fun g (e:g = c1)=>by rw [e];exact hlo1)
       replace hX:=hX.touchS hT (fun g (e:g = c1)=>by rw [e];exact ⟨hbo1,box24 hZ1⟩)
       replace hZ2:=(hoth c2 hnz).trans hZ2
       replace hBx:=Nat.le_trans hBx hT.size
       clear hbX hZ1 hw hT hoth
       have hbX:=hbN
       have hZ1:=hZN
       clear hbN hZN
       clear hoS
       refine hK.out _ _ ?_ (fun hHeld=>?_)
       ·exact HF.out _ hbX
       clear hK K
       (try simp only [Act.put,pA,pB,pC])
       refine wpAnyH_ready (rs:=[7]) (by kernel_rfl) (by simp) ?_
       refine (readyR rfl (fun K hK=>?_) AllReadyH.nil)
       have hoS:(#[.int .i64 vk,.int .i64 vi,.int .i64 vg,.string vn,.string vf,.int .i64 va,.slice py nv cy,.string vb,.int .i64 vz]:Array Value).all (·.oneCell') = true:=all_oneCell_toArray (nineL_one (f:=⟨vk,vi,vg,vn,vf,va,vb,vz⟩) (u:=.slice py nv cy) rfl)
       obtain ⟨xs,hw,hT,hbN,hZN,hoth⟩:=nset hbX hlo2 #[.int .i64 vk,.int .i64 vi,.int .i64 vg,.string vn,.string vf,.int .i64 va,.slice py nv cy,.string vb,.int .i64 vz] hZ2
       refine step_store_run (by rfl) 24 (.tmp 29) (.tmp 186) rfl (p:=⟨_,0,none⟩) rfl rfl (run_storeVar_row _ _ 24 24 _ #[.int .i64 vk,.int .i64 vi,.int .i64 vg,.string vn,.string vf,.int .i64 va,.slice py nv cy,.string vb,.int .i64 vz] hZ2 hsz9 rfl hoS) ?_
       (try rw [hw])
       replace hx:=hx.touch hbX.size hT (fun g (e:g = c2)=>by rw [e];exact hnx2) (fun g (e:g = c2)=>by rw [e];exact hlo2)
       replace hy:=hy.touch hbX.size hT (fun g (e:g = c2)=>by rw [e];exact hny2) (fun g (e:g = c2)=>by rw [e];exact hlo2)
       replace hX:=hX.touchS hT (fun g (e:g = c2)=>by rw [e];exact ⟨hbo2,box24 hZ2⟩)
       replace hZ1:=(hoth c1 (Ne.symm hnz)).trans hZ1
       replace hBx:=Nat.le_trans hBx hT.size
       clear hbX hZ2 hw hT hoth
       have hbX:=hbN
       have hZ2:=hZN
       clear hbN hZN
       clear hoS
       refine hK.out _ _ ?_ (fun hHeld=>?_)
       ·exact HF.out _ hbX
       clear hK K
       (try simp only [Act.put,pA,pB,pC])
       refine wpAnyH_done (by kernel_rfl) ?_ _
       go_wp2_with fail
       go_meet
       exact ⟨_,_,Fx,Fy,_,_,_,_,rfl,rfl,⟨hX.less (fun g e=>by rcases e with e | e;exact (hx.inr g e).1;exact (hy.inr g e).1),Nat.le_trans hzx hBx,hb0.size,hbX,hx.weak hb0.size hzx,hy.weak hb0.size hzx,hne⟩,hZ1,hZ2,hnx1,hny1,hnx2,hny2⟩
     ·obtain ⟨c1,xa,hc,hw,hb,hZ1,hlo1⟩:=nbox hbX (.cells #[.int .i64 0,.int .i64 0,.int .i64 0,.string ⟨#[]⟩,.string ⟨#[]⟩,.int .i64 0,.slice none 0 0,.string ⟨#[]⟩,.int .i64 0] 24)
      go_simp
      (try rw [hw])
      (try rw [hc])
      have hnx1:¬ Fx c1:=hc ▸ hx.fresh
      have hbo1:bx ≤ c1:=hc ▸ hBx
      replace hx:=hx.below hbX.size hb
      replace hX:=hX.below hb
      replace hBx:=Nat.le_trans hBx hb.size
      replace hbX:=hbX.trans (hb.mono hbX.size)
      clear hb hw hc
      refine hK.out _ _ ?_ (fun hHeld=>?_)
      ·exact HF.out _ hbX
      clear hK K
      (try simp only [Act.put,pA,pB,pC])
      refine wpAnyH_ready (rs:=[3,5]) (by kernel_rfl) (by simp) ?_
      refine (readyR rfl (fun K hK=>?_) (readyR rfl (fun K hK=>?_) AllReadyH.nil))
      ·go_simp
       refine (HLv2.out w5 HB5.out bx (Nat.le_trans hb0.size hzx) _ hbX hBx (Nat.lt_of_lt_of_le h0w hbX.size)).mono ?_
       rintro e y1 ⟨Fy,py,cy,rfl,hn,hb,hf⟩
       have hny1:=old_no hf hZ1
       have hne:∀ g,Fx g→¬ Fy g:=fun g h1 h2=>by have:=(hx.inr g h1).2;have:=hf g h2;omega
       replace hx:=hx.below hbX.size hb
       replace hZ1:=(hb.block _ (Array.getElem?_eq_some_iff.1 hZ1).1).trans hZ1
       replace hX:=hX.below hb
       replace hBx:=Nat.le_trans hBx hb.size
       replace hbX:=hbX.trans (hb.mono hbX.size)
       have hy:=hn
       clear hn hb hf
       go_wp2_with fail
       refine hK.out _ _ ?_ (fun hHeld=>?_)
       ·exact HF.out _ hbX
       clear hK K
       (try simp only [Act.put,pA,pB,pC])
       refine wpAnyH_ready (rs:=[5]) (by kernel_rfl) (by simp) ?_
       refine (readyR rfl (fun K hK=>?_) AllReadyH.nil)
       obtain ⟨c2,xa,hc,hw,hb,hZ2,hlo2⟩:=nbox hbX (.cells #[.int .i64 0,.int .i64 0,.int .i64 0,.string ⟨#[]⟩,.string ⟨#[]⟩,.int .i64 0,.slice none 0 0,.string ⟨#[]⟩,.int .i64 0] 24)
       go_simp
       (try rw [hw])
       (try rw [hc])
       have hnx2:¬ Fx c2:=hc ▸ hx.fresh
       have hny2:¬ Fy c2:=hc ▸ hy.fresh
       have hnz:c1 ≠ c2:=by have:=(Array.getElem?_eq_some_iff.1 hZ1).1;omega
       have hbo2:bx ≤ c2:=hc ▸ hBx
       replace hx:=hx.below hbX.size hb
       replace hy:=hy.below hbX.size hb
       replace hZ1:=(hb.block _ (Array.getElem?_eq_some_iff.1 hZ1).1).trans hZ1
       replace hX:=hX.below hb
       replace hBx:=Nat.le_trans hBx hb.size
       replace hbX:=hbX.trans (hb.mono hbX.size)
       clear hb hw hc
       refine hK.out _ _ ?_ (fun hHeld=>?_)
       ·exact HF.out _ hbX
       clear hK K
       (try simp only [Act.put,pA,pB,pC])
       refine wpAnyH_ready (rs:=[6]) (by kernel_rfl) (by simp) ?_
       refine (readyR rfl (fun K hK=>?_) AllReadyH.nil)
       have hoS:(#[.int .i64 kk,.int .i64 ki,.int .i64 kg,.string kn,.string kf,.int .i64 ka,.slice px nk cx,.string kb,.int .i64 kz]:Array Value).all (·.oneCell') = true:=all_oneCell_toArray (nineL_one (f:=⟨kk,ki,kg,kn,kf,ka,kb,kz⟩) (u:=.slice px nk cx) rfl)
       obtain ⟨xs,hw,hT,hbN,hZN,hoth⟩:=nset hbX hlo1 #[.int .i64 kk,.int .i64 ki,.int .i64 kg,.string kn,.string kf,.int .i64 ka,.slice px nk cx,.string kb,.int .i64 kz] hZ1
       refine step_store_run (by rfl) 24 (.tmp 28) (.tmp 184) rfl (p:=⟨_,0,none⟩) rfl rfl (run_storeVar_row _ _ 24 24 _ #[.int .i64 kk,.int .i64 ki,.int .i64 kg,.string kn,.string kf,.int .i64 ka,.slice px nk cx,.string kb,.int .i64 kz] hZ1 hsz9 rfl hoS) ?_
       (try rw [hw])
       replace hx:=hx.touch hbX.size hT (fun g (e:g = c1)=>by rw [e];exact hnx1) (fun g (e:g = c1)=>by rw [e];exact hlo1)
       replace hy:=hy.touch hbX.size hT (fun g (e:g = c1)=>by rw [e];exact hny1) (fun g (e:g = c1)=>by rw [e];exact hlo1)
       replace hX:=hX.touchS hT (fun g (e:g = c1)=>by rw [e];exact ⟨hbo1,box24 hZ1⟩)
       replace hZ2:=(hoth c2 (Ne.symm hnz)).trans hZ2
       replace hBx:=Nat.le_trans hBx hT.size
       clear hbX hZ1 hw hT hoth
       have hbX:=hbN
       have hZ1:=hZN
       clear hbN hZN
       clear hoS
       refine hK.out _ _ ?_ (fun hHeld=>?_)
       ·exact HF.out _ hbX
       clear hK K
       (try simp only [Act.put,pA,pB,pC])
       refine wpAnyH_ready (rs:=[7]) (by kernel_rfl) (by simp) ?_
       refine (readyR rfl (fun K hK=>?_) AllReadyH.nil)
       have hoS:(#[.int .i64 vk,.int .i64 vi,.int .i64 vg,.string vn,.string vf,.int .i64 va,.slice py nv cy,.string vb,.int .i64 vz]:Array Value).all (·.oneCell') = true:=all_oneCell_toArray (nineL_one (f:=⟨vk,vi,vg,vn,vf,va,vb,vz⟩) (u:=.slice py nv cy) rfl)
       obtain ⟨xs,hw,hT,hbN,hZN,hoth⟩:=nset hbX hlo2 #[.int .i64 vk,.int .i64 vi,.int .i64 vg,.string vn,.string vf,.int .i64 va,.slice py nv cy,.string vb,.int .i64 vz] hZ2
       refine step_store_run (by rfl) 24 (.tmp 29) (.tmp 186) rfl (p:=⟨_,0,none⟩) rfl rfl (run_storeVar_row _ _ 24 24 _ #[.int .i64 vk,.int .i64 vi,.int .i64 vg,.string vn,.string vf,.int .i64 va,.slice py nv cy,.string vb,.int .i64 vz] hZ2 hsz9 rfl hoS) ?_
       (try rw [hw])
       replace hx:=hx.touch hbX.size hT (fun g (e:g = c2)=>by rw [e];exact hnx2) (fun g (e:g = c2)=>by rw [e];exact hlo2)
       replace hy:=hy.touch hbX.size hT (fun g (e:g = c2)=>by rw [e];exact hny2) (fun g (e:g = c2)=>by rw [e];exact hlo2)
       replace hX:=hX.touchS hT (fun g (e:g = c2)=>by rw [e];exact ⟨hbo2,box24 hZ2⟩)
       replace hZ1:=(hoth c1 hnz).trans hZ1
       replace hBx:=Nat.le_trans hBx hT.size
       clear hbX hZ2 hw hT hoth
       have hbX:=hbN
       have hZ2:=hZN
       clear hbN hZN
       clear hoS
       refine hK.out _ _ ?_ (fun hHeld=>?_)
       ·exact HF.out _ hbX
       clear hK K
       (try simp only [Act.put,pA,pB,pC])
       refine wpAnyH_done (by kernel_rfl) ?_ _
       go_wp2_with fail
       go_meet
       exact ⟨_,_,Fx,Fy,_,_,_,_,rfl,rfl,⟨hX.less (fun g e=>by rcases e with e | e;exact (hx.inr g e).1;exact (hy.inr g e).1),Nat.le_trans hzx hBx,hb0.size,hbX,hx.weak hb0.size hzx,hy.weak hb0.size hzx,hne⟩,hZ1,hZ2,hnx1,hny1,hnx2,hny2⟩
      ·obtain ⟨c2,xa,hc,hw,hb,hZ2,hlo2⟩:=nbox hbX (.cells #[.int .i64 0,.int .i64 0,.int .i64 0,.string ⟨#[]⟩,.string ⟨#[]⟩,.int .i64 0,.slice none 0 0,.string ⟨#[]⟩,.int .i64 0] 24)
       go_simp
       (try rw [hw])
       (try rw [hc])
       have hnx2:¬ Fx c2:=hc ▸ hx.fresh
       have hnz:c1 ≠ c2:=by have:=(Array.getElem?_eq_some_iff.1 hZ1).1;omega
       have hbo2:bx ≤ c2:=hc ▸ hBx
       replace hx:=hx.below hbX.size hb
       replace hZ1:=(hb.block _ (Array.getElem?_eq_some_iff.1 hZ1).1).trans hZ1
       replace hX:=hX.below hb
       replace hBx:=Nat.le_trans hBx hb.size
       replace hbX:=hbX.trans (hb.mono hbX.size)
       clear hb hw hc
       refine hK.out _ _ ?_ (fun hHeld=>?_)
       ·exact HF.out _ hbX
       clear hK K
       (try simp only [Act.put,pA,pB,pC])
       refine wpAnyH_ready (rs:=[3]) (by kernel_rfl) (by simp) ?_
       refine (readyR rfl (fun K hK=>?_) AllReadyH.nil)
       go_simp
       refine (HLv2.out w5 HB5.out bx (Nat.le_trans hb0.size hzx) _ hbX hBx (Nat.lt_of_lt_of_le h0w hbX.size)).mono ?_
       rintro e y1 ⟨Fy,py,cy,rfl,hn,hb,hf⟩
       have hny1:=old_no hf hZ1
       have hny2:=old_no hf hZ2
       have hne:∀ g,Fx g→¬ Fy g:=fun g h1 h2=>by have:=(hx.inr g h1).2;have:=hf g h2;omega
       replace hx:=hx.below hbX.size hb
       replace hZ1:=(hb.block _ (Array.getElem?_eq_some_iff.1 hZ1).1).trans hZ1
       replace hZ2:=(hb.block _ (Array.getElem?_eq_some_iff.1 hZ2).1).trans hZ2
       replace hX:=hX.below hb
       replace hBx:=Nat.le_trans hBx hb.size
       replace hbX:=hbX.trans (hb.mono hbX.size)
       have hy:=hn
       clear hn hb hf
       go_wp2_with fail
       refine hK.out _ _ ?_ (fun hHeld=>?_)
       ·exact HF.out _ hbX
       clear hK K
       (try simp only [Act.put,pA,pB,pC])
       refine wpAnyH_ready (rs:=[6]) (by kernel_rfl) (by simp) ?_
       refine (readyR rfl (fun K hK=>?_) AllReadyH.nil)
       have hoS:(#[.int .i64 kk,.int .i64 ki,.int .i64 kg,.string kn,.string kf,.int .i64 ka,.slice px nk cx,.string kb,.int .i64 kz]:Array Value).all (·.oneCell') = true:=all_oneCell_toArray (nineL_one (f:=⟨kk,ki,kg,kn,kf,ka,kb,kz⟩) (u:=.slice px nk cx) rfl)
       obtain ⟨xs,hw,hT,hbN,hZN,hoth⟩:=nset hbX hlo1 #[.int .i64 kk,.int .i64 ki,.int .i64 kg,.string kn,.string kf,.int .i64 ka,.slice px nk cx,.string kb,.int .i64 kz] hZ1
       refine step_store_run (by rfl) 24 (.tmp 28) (.tmp 184) rfl (p:=⟨_,0,none⟩) rfl rfl (run_storeVar_row _ _ 24 24 _ #[.int .i64 kk,.int .i64 ki,.int .i64 kg,.string kn,.string kf,.int .i64 ka,.slice px nk cx,.string kb,.int .i64 kz] hZ1 hsz9 rfl hoS) ?_
       (try rw [hw])
       replace hx:=hx.touch hbX.size hT (fun g (e:g = c1)=>by rw [e];exact hnx1) (fun g (e:g = c1)=>by rw [e];exact hlo1)
       replace hy:=hy.touch hbX.size hT (fun g (e:g = c1)=>by rw [e];exact hny1) (fun g (e:g = c1)=>by rw [e];exact hlo1)
       replace hX:=hX.touchS hT (fun g (e:g = c1)=>by rw [e];exact ⟨hbo1,box24 hZ1⟩)
       replace hZ2:=(hoth c2 (Ne.symm hnz)).trans hZ2
       replace hBx:=Nat.le_trans hBx hT.size
       clear hbX hZ1 hw hT hoth
       have hbX:=hbN
       have hZ1:=hZN
       clear hbN hZN
       clear hoS
       refine hK.out _ _ ?_ (fun hHeld=>?_)
       ·exact HF.out _ hbX
       clear hK K
       (try simp only [Act.put,pA,pB,pC])
       refine wpAnyH_ready (rs:=[7]) (by kernel_rfl) (by simp) ?_
       refine (readyR rfl (fun K hK=>?_) AllReadyH.nil)
       have hoS:(#[.int .i64 vk,.int .i64 vi,.int .i64 vg,.string vn,.string vf,.int .i64 va,.slice py nv cy,.string vb,.int .i64 vz]:Array Value).all (·.oneCell') = true:=all_oneCell_toArray (nineL_one (f:=⟨vk,vi,vg,vn,vf,va,vb,vz⟩) (u:=.slice py nv cy) rfl)
       obtain ⟨xs,hw,hT,hbN,hZN,hoth⟩:=nset hbX hlo2 #[.int .i64 vk,.int .i64 vi,.int .i64 vg,.string vn,.string vf,.int .i64 va,.slice py nv cy,.string vb,.int .i64 vz] hZ2
       refine step_store_run (by rfl) 24 (.tmp 29) (.tmp 186) rfl (p:=⟨_,0,none⟩) rfl rfl (run_storeVar_row _ _ 24 24 _ #[.int .i64 vk,.int .i64 vi,.int .i64 vg,.string vn,.string vf,.int .i64 va,.slice py nv cy,.string vb,.int .i64 vz] hZ2 hsz9 rfl hoS) ?_
       (try rw [hw])
       replace hx:=hx.touch hbX.size hT (fun g (e:g = c2)=>by rw [e];exact hnx2) (fun g (e:g = c2)=>by rw [e];exact hlo2)
       replace hy:=hy.touch hbX.size hT (fun g (e:g = c2)=>by rw [e];exact hny2) (fun g (e:g = c2)=>by rw [e];exact hlo2)
       replace hX:=hX.touchS hT (fun g (e:g = c2)=>by rw [e];exact ⟨hbo2,box24 hZ2⟩)
       replace hZ1:=(hoth c1 hnz).trans hZ1
       replace hBx:=Nat.le_trans hBx hT.size
       clear hbX hZ2 hw hT hoth
       have hbX:=hbN
       have hZ2:=hZN
       clear hbN hZN
       clear hoS
       refine hK.out _ _ ?_ (fun hHeld=>?_)
       ·exact HF.out _ hbX
       clear hK K
       (try simp only [Act.put,pA,pB,pC])
       refine wpAnyH_done (by kernel_rfl) ?_ _
       go_wp2_with fail
       go_meet
       exact ⟨_,_,Fx,Fy,_,_,_,_,rfl,rfl,⟨hX.less (fun g e=>by rcases e with e | e;exact (hx.inr g e).1;exact (hy.inr g e).1),Nat.le_trans hzx hBx,hb0.size,hbX,hx.weak hb0.size hzx,hy.weak hb0.size hzx,hne⟩,hZ1,hZ2,hnx1,hny1,hnx2,hny2⟩
     ·obtain ⟨c2,xa,hc,hw,hb,hZ2,hlo2⟩:=nbox hbX (.cells #[.int .i64 0,.int .i64 0,.int .i64 0,.string ⟨#[]⟩,.string ⟨#[]⟩,.int .i64 0,.slice none 0 0,.string ⟨#[]⟩,.int .i64 0] 24)
      go_simp
      (try rw [hw])
      (try rw [hc])
      have hnx2:¬ Fx c2:=hc ▸ hx.fresh
      have hbo2:bx ≤ c2:=hc ▸ hBx
      replace hx:=hx.below hbX.size hb
      replace hX:=hX.below hb
      replace hBx:=Nat.le_trans hBx hb.size
      replace hbX:=hbX.trans (hb.mono hbX.size)
      clear hb hw hc
      refine hK.out _ _ ?_ (fun hHeld=>?_)
      ·exact HF.out _ hbX
      clear hK K
      (try simp only [Act.put,pA,pB,pC])
      refine wpAnyH_ready (rs:=[3,4]) (by kernel_rfl) (by simp) ?_
      refine (readyR rfl (fun K hK=>?_) (readyR rfl (fun K hK=>?_) AllReadyH.nil))
      ·go_simp
       refine (HLv2.out w5 HB5.out bx (Nat.le_trans hb0.size hzx) _ hbX hBx (Nat.lt_of_lt_of_le h0w hbX.size)).mono ?_
       rintro e y1 ⟨Fy,py,cy,rfl,hn,hb,hf⟩
       have hny2:=old_no hf hZ2
       have hne:∀ g,Fx g→¬ Fy g:=fun g h1 h2=>by have:=(hx.inr g h1).2;have:=hf g h2;omega
       replace hx:=hx.below hbX.size hb
       replace hZ2:=(hb.block _ (Array.getElem?_eq_some_iff.1 hZ2).1).trans hZ2
       replace hX:=hX.below hb
       replace hBx:=Nat.le_trans hBx hb.size
       replace hbX:=hbX.trans (hb.mono hbX.size)
       have hy:=hn
       clear hn hb hf
       go_wp2_with fail
       refine hK.out _ _ ?_ (fun hHeld=>?_)
       ·exact HF.out _ hbX
       clear hK K
       (try simp only [Act.put,pA,pB,pC])
       refine wpAnyH_ready (rs:=[4]) (by kernel_rfl) (by simp) ?_
       refine (readyR rfl (fun K hK=>?_) AllReadyH.nil)
       obtain ⟨c1,xa,hc,hw,hb,hZ1,hlo1⟩:=nbox hbX (.cells #[.int .i64 0,.int .i64 0,.int .i64 0,.string ⟨#[]⟩,.string ⟨#[]⟩,.int .i64 0,.slice none 0 0,.string ⟨#[]⟩,.int .i64 0] 24)
       go_simp
       (try rw [hw])
       (try rw [hc])
       have hnx1:¬ Fx c1:=hc ▸ hx.fresh
       have hny1:¬ Fy c1:=hc ▸ hy.fresh
       have hnz:c2 ≠ c1:=by have:=(Array.getElem?_eq_some_iff.1 hZ2).1;omega
       have hbo1:bx ≤ c1:=hc ▸ hBx
       replace hx:=hx.below hbX.size hb
       replace hy:=hy.below hbX.size hb
       replace hZ2:=(hb.block _ (Array.getElem?_eq_some_iff.1 hZ2).1).trans hZ2
       replace hX:=hX.below hb
       replace hBx:=Nat.le_trans hBx hb.size
       replace hbX:=hbX.trans (hb.mono hbX.size)
       clear hb hw hc
       refine hK.out _ _ ?_ (fun hHeld=>?_)
       ·exact HF.out _ hbX
       clear hK K
       (try simp only [Act.put,pA,pB,pC])
       refine wpAnyH_ready (rs:=[6]) (by kernel_rfl) (by simp) ?_
       refine (readyR rfl (fun K hK=>?_) AllReadyH.nil)
       have hoS:(#[.int .i64 kk,.int .i64 ki,.int .i64 kg,.string kn,.string kf,.int .i64 ka,.slice px nk cx,.string kb,.int .i64 kz]:Array Value).all (·.oneCell') = true:=all_oneCell_toArray (nineL_one (f:=⟨kk,ki,kg,kn,kf,ka,kb,kz⟩) (u:=.slice px nk cx) rfl)
       obtain ⟨xs,hw,hT,hbN,hZN,hoth⟩:=nset hbX hlo1 #[.int .i64 kk,.int .i64 ki,.int .i64 kg,.string kn,.string kf,.int .i64 ka,.slice px nk cx,.string kb,.int .i64 kz] hZ1
       refine step_store_run (by rfl) 24 (.tmp 28) (.tmp 184) rfl (p:=⟨_,0,none⟩) rfl rfl (run_storeVar_row _ _ 24 24 _ #[.int .i64 kk,.int .i64 ki,.int .i64 kg,.string kn,.string kf,.int .i64 ka,.slice px nk cx,.string kb,.int .i64 kz] hZ1 hsz9 rfl hoS) ?_
       (try rw [hw])
       replace hx:=hx.touch hbX.size hT (fun g (e:g = c1)=>by rw [e];exact hnx1) (fun g (e:g = c1)=>by rw [e];exact hlo1)
       replace hy:=hy.touch hbX.size hT (fun g (e:g = c1)=>by rw [e];exact hny1) (fun g (e:g = c1)=>by rw [e];exact hlo1)
       replace hX:=hX.touchS hT (fun g (e:g = c1)=>by rw [e];exact ⟨hbo1,box24 hZ1⟩)
       replace hZ2:=(hoth c2 hnz).trans hZ2
       replace hBx:=Nat.le_trans hBx hT.size
       clear hbX hZ1 hw hT hoth
       have hbX:=hbN
       have hZ1:=hZN
       clear hbN hZN
       clear hoS
       refine hK.out _ _ ?_ (fun hHeld=>?_)
       ·exact HF.out _ hbX
       clear hK K
       (try simp only [Act.put,pA,pB,pC])
       refine wpAnyH_ready (rs:=[7]) (by kernel_rfl) (by simp) ?_
       refine (readyR rfl (fun K hK=>?_) AllReadyH.nil)
       have hoS:(#[.int .i64 vk,.int .i64 vi,.int .i64 vg,.string vn,.string vf,.int .i64 va,.slice py nv cy,.string vb,.int .i64 vz]:Array Value).all (·.oneCell') = true:=all_oneCell_toArray (nineL_one (f:=⟨vk,vi,vg,vn,vf,va,vb,vz⟩) (u:=.slice py nv cy) rfl)
       obtain ⟨xs,hw,hT,hbN,hZN,hoth⟩:=nset hbX hlo2 #[.int .i64 vk,.int .i64 vi,.int .i64 vg,.string vn,.string vf,.int .i64 va,.slice py nv cy,.string vb,.int .i64 vz] hZ2
       refine step_store_run (by rfl) 24 (.tmp 29) (.tmp 186) rfl (p:=⟨_,0,none⟩) rfl rfl (run_storeVar_row _ _ 24 24 _ #[.int .i64 vk,.int .i64 vi,.int .i64 vg,.string vn,.string vf,.int .i64 va,.slice py nv cy,.string vb,.int .i64 vz] hZ2 hsz9 rfl hoS) ?_
       (try rw [hw])
       replace hx:=hx.touch hbX.size hT (fun g (e:g = c2)=>by rw [e];exact hnx2) (fun g (e:g = c2)=>by rw [e];exact hlo2)
       replace hy:=hy.touch hbX.size hT (fun g (e:g = c2)=>by rw [e];exact hny2) (fun g (e:g = c2)=>by rw [e];exact hlo2)
       replace hX:=hX.touchS hT (fun g (e:g = c2)=>by rw [e];exact ⟨hbo2,box24 hZ2⟩)
       replace hZ1:=(hoth c1 (Ne.symm hnz)).trans hZ1
       replace hBx:=Nat.le_trans hBx hT.size
       clear hbX hZ2 hw hT hoth
       have hbX:=hbN
       have hZ2:=hZN
       clear hbN hZN
       clear hoS
       refine hK.out _ _ ?_ (fun hHeld=>?_)
       ·exact HF.out _ hbX
       clear hK K
       (try simp only [Act.put,pA,pB,pC])
       refine wpAnyH_done (by kernel_rfl) ?_ _
       go_wp2_with fail
       go_meet
       exact ⟨_,_,Fx,Fy,_,_,_,_,rfl,rfl,⟨hX.less (fun g e=>by rcases e with e | e;exact (hx.inr g e).1;exact (hy.inr g e).1),Nat.le_trans hzx hBx,hb0.size,hbX,hx.weak hb0.size hzx,hy.weak hb0.size hzx,hne⟩,hZ1,hZ2,hnx1,hny1,hnx2,hny2⟩
      ·obtain ⟨c1,xa,hc,hw,hb,hZ1,hlo1⟩:=nbox hbX (.cells #[.int .i64 0,.int .i64 0,.int .i64 0,.string ⟨#[]⟩,.string ⟨#[]⟩,.int .i64 0,.slice none 0 0,.string ⟨#[]⟩,.int .i64 0] 24)
       go_simp
       (try rw [hw])
       (try rw [hc])
       have hnx1:¬ Fx c1:=hc ▸ hx.fresh
       have hnz:c2 ≠ c1:=by have:=(Array.getElem?_eq_some_iff.1 hZ2).1;omega
       have hbo1:bx ≤ c1:=hc ▸ hBx
       replace hx:=hx.below hbX.size hb
       replace hZ2:=(hb.block _ (Array.getElem?_eq_some_iff.1 hZ2).1).trans hZ2
       replace hX:=hX.below hb
       replace hBx:=Nat.le_trans hBx hb.size
       replace hbX:=hbX.trans (hb.mono hbX.size)
       clear hb hw hc
       refine hK.out _ _ ?_ (fun hHeld=>?_)
       ·exact HF.out _ hbX
       clear hK K
       (try simp only [Act.put,pA,pB,pC])
       refine wpAnyH_ready (rs:=[3]) (by kernel_rfl) (by simp) ?_
       refine (readyR rfl (fun K hK=>?_) AllReadyH.nil)
       go_simp
       refine (HLv2.out w5 HB5.out bx (Nat.le_trans hb0.size hzx) _ hbX hBx (Nat.lt_of_lt_of_le h0w hbX.size)).mono ?_
       rintro e y1 ⟨Fy,py,cy,rfl,hn,hb,hf⟩
       have hny1:=old_no hf hZ1
       have hny2:=old_no hf hZ2
       have hne:∀ g,Fx g→¬ Fy g:=fun g h1 h2=>by have:=(hx.inr g h1).2;have:=hf g h2;omega
       replace hx:=hx.below hbX.size hb
       replace hZ1:=(hb.block _ (Array.getElem?_eq_some_iff.1 hZ1).1).trans hZ1
       replace hZ2:=(hb.block _ (Array.getElem?_eq_some_iff.1 hZ2).1).trans hZ2
       replace hX:=hX.below hb
       replace hBx:=Nat.le_trans hBx hb.size
       replace hbX:=hbX.trans (hb.mono hbX.size)
       have hy:=hn
       clear hn hb hf
       go_wp2_with fail
       refine hK.out _ _ ?_ (fun hHeld=>?_)
       ·exact HF.out _ hbX
       clear hK K
       (try simp only [Act.put,pA,pB,pC])
       refine wpAnyH_ready (rs:=[6]) (by kernel_rfl) (by simp) ?_
       refine (readyR rfl (fun K hK=>?_) AllReadyH.nil)
       have hoS:(#[.int .i64 kk,.int .i64 ki,.int .i64 kg,.string kn,.string kf,.int .i64 ka,.slice px nk cx,.string kb,.int .i64 kz]:Array Value).all (·.oneCell') = true:=all_oneCell_toArray (nineL_one (f:=⟨kk,ki,kg,kn,kf,ka,kb,kz⟩) (u:=.slice px nk cx) rfl)
       obtain ⟨xs,hw,hT,hbN,hZN,hoth⟩:=nset hbX hlo1 #[.int .i64 kk,.int .i64 ki,.int .i64 kg,.string kn,.string kf,.int .i64 ka,.slice px nk cx,.string kb,.int .i64 kz] hZ1
       refine step_store_run (by rfl) 24 (.tmp 28) (.tmp 184) rfl (p:=⟨_,0,none⟩) rfl rfl (run_storeVar_row _ _ 24 24 _ #[.int .i64 kk,.int .i64 ki,.int .i64 kg,.string kn,.string kf,.int .i64 ka,.slice px nk cx,.string kb,.int .i64 kz] hZ1 hsz9 rfl hoS) ?_
       (try rw [hw])
       replace hx:=hx.touch hbX.size hT (fun g (e:g = c1)=>by rw [e];exact hnx1) (fun g (e:g = c1)=>by rw [e];exact hlo1)
       replace hy:=hy.touch hbX.size hT (fun g (e:g = c1)=>by rw [e];exact hny1) (fun g (e:g = c1)=>by rw [e];exact hlo1)
       replace hX:=hX.touchS hT (fun g (e:g = c1)=>by rw [e];exact ⟨hbo1,box24 hZ1⟩)
       replace hZ2:=(hoth c2 hnz).trans hZ2
       replace hBx:=Nat.le_trans hBx hT.size
       clear hbX hZ1 hw hT hoth
       have hbX:=hbN
       have hZ1:=hZN
       clear hbN hZN
       clear hoS
       refine hK.out _ _ ?_ (fun hHeld=>?_)
       ·exact HF.out _ hbX
       clear hK K
       (try simp only [Act.put,pA,pB,pC])
       refine wpAnyH_ready (rs:=[7]) (by kernel_rfl) (by simp) ?_
       refine (readyR rfl (fun K hK=>?_) AllReadyH.nil)
       have hoS:(#[.int .i64 vk,.int .i64 vi,.int .i64 vg,.string vn,.string vf,.int .i64 va,.slice py nv cy,.string vb,.int .i64 vz]:Array Value).all (·.oneCell') = true:=all_oneCell_toArray (nineL_one (f:=⟨vk,vi,vg,vn,vf,va,vb,vz⟩) (u:=.slice py nv cy) rfl)
       obtain ⟨xs,hw,hT,hbN,hZN,hoth⟩:=nset hbX hlo2 #[.int .i64 vk,.int .i64 vi,.int .i64 vg,.string vn,.string vf,.int .i64 va,.slice py nv cy,.string vb,.int .i64 vz] hZ2
       refine step_store_run (by rfl) 24 (.tmp 29) (.tmp 186) rfl (p:=⟨_,0,none⟩) rfl rfl (run_storeVar_row _ _ 24 24 _ #[.int .i64 vk,.int .i64 vi,.int .i64 vg,.string vn,.string vf,.int .i64 va,.slice py nv cy,.string vb,.int .i64 vz] hZ2 hsz9 rfl hoS) ?_
       (try rw [hw])
       replace hx:=hx.touch hbX.size hT (fun g (e:g = c2)=>by rw [e];exact hnx2) (fun g (e:g = c2)=>by rw [e];exact hlo2)
       replace hy:=hy.touch hbX.size hT (fun g (e:g = c2)=>by rw [e];exact hny2) (fun g (e:g = c2)=>by rw [e];exact hlo2)
       replace hX:=hX.touchS hT (fun g (e:g = c2)=>by rw [e];exact ⟨hbo2,box24 hZ2⟩)
       replace hZ1:=(hoth c1 (Ne.symm hnz)).trans hZ1
       replace hBx:=Nat.le_trans hBx hT.size
       clear hbX hZ2 hw hT hoth
       have hbX:=hbN
       have hZ2:=hZN
       clear hbN hZN
       clear hoS
       refine hK.out _ _ ?_ (fun hHeld=>?_)
       ·exact HF.out _ hbX
       clear hK K
       (try simp only [Act.put,pA,pB,pC])
       refine wpAnyH_done (by kernel_rfl) ?_ _
       go_wp2_with fail
       go_meet
       exact ⟨_,_,Fx,Fy,_,_,_,_,rfl,rfl,⟨hX.less (fun g e=>by rcases e with e | e;exact (hx.inr g e).1;exact (hy.inr g e).1),Nat.le_trans hzx hBx,hb0.size,hbX,hx.weak hb0.size hzx,hy.weak hb0.size hzx,hne⟩,hZ1,hZ2,hnx1,hny1,hnx2,hny2⟩
    ·obtain ⟨c1,xa,hc,hw,hb,hZ1,hlo1⟩:=nbox hbX (.cells #[.int .i64 0,.int .i64 0,.int .i64 0,.string ⟨#[]⟩,.string ⟨#[]⟩,.int .i64 0,.slice none 0 0,.string ⟨#[]⟩,.int .i64 0] 24)
     go_simp
     (try rw [hw])
     (try rw [hc])
     have hbo1:bx ≤ c1:=hc ▸ hBx
     replace hX:=hX.below hb
     replace hBx:=Nat.le_trans hBx hb.size
     replace hbX:=hbX.trans (hb.mono hbX.size)
     clear hb hw hc
     refine hK.out _ _ ?_ (fun hHeld=>?_)
     ·exact HF.out _ hbX
     clear hK K
     (try simp only [Act.put,pA,pB,pC])
     refine wpAnyH_ready (rs:=[1,5]) (by kernel_rfl) (by simp) ?_
     refine (readyR rfl (fun K hK=>?_) (readyR rfl (fun K hK=>?_) AllReadyH.nil))
     ·go_simp
      refine (HLk2.out w5 HB5.out bx (Nat.le_trans hb0.size hzx) _ hbX hBx (Nat.lt_of_lt_of_le h0w hbX.size)).mono ?_
      rintro e y1 ⟨Fx,px,cx,rfl,hn,hb,hf⟩
      have hnx1:=old_no hf hZ1
      replace hZ1:=(hb.block _ (Array.getElem?_eq_some_iff.1 hZ1).1).trans hZ1
      replace hX:=hX.below hb
      replace hBx:=Nat.le_trans hBx hb.size
      replace hbX:=hbX.trans (hb.mono hbX.size)
      have hx:=hn
      clear hn hb hf
      go_wp2_with fail
      refine hK.out _ _ ?_ (fun hHeld=>?_)
      ·exact HF.out _ hbX
      clear hK K
      (try simp only [Act.put,pA,pB,pC])
      refine wpAnyH_ready (rs:=[3,5]) (by kernel_rfl) (by simp) ?_
      refine (readyR rfl (fun K hK=>?_) (readyR rfl (fun K hK=>?_) AllReadyH.nil))
      ·go_simp
       refine (HLv2.out w5 HB5.out bx (Nat.le_trans hb0.size hzx) _ hbX hBx (Nat.lt_of_lt_of_le h0w hbX.size)).mono ?_
       rintro e y1 ⟨Fy,py,cy,rfl,hn,hb,hf⟩
       have hny1:=old_no hf hZ1
       have hne:∀ g,Fx g→¬ Fy g:=fun g h1 h2=>by have:=(hx.inr g h1).2;have:=hf g h2;omega
       replace hx:=hx.below hbX.size hb
       replace hZ1:=(hb.block _ (Array.getElem?_eq_some_iff.1 hZ1).1).trans hZ1
       replace hX:=hX.below hb
       replace hBx:=Nat.le_trans hBx hb.size
       replace hbX:=hbX.trans (hb.mono hbX.size)
       have hy:=hn
       clear hn hb hf
       go_wp2_with fail
       refine hK.out _ _ ?_ (fun hHeld=>?_)
       ·exact HF.out _ hbX
       clear hK K
       (try simp only [Act.put,pA,pB,pC])
       refine wpAnyH_ready (rs:=[5]) (by kernel_rfl) (by simp) ?_
       refine (readyR rfl (fun K hK=>?_) AllReadyH.nil)
       obtain ⟨c2,xa,hc,hw,hb,hZ2,hlo2⟩:=nbox hbX (.cells #[.int .i64 0,.int .i64 0,.int .i64 0,.string ⟨#[]⟩,.string ⟨#[]⟩,.int .i64 0,.slice none 0 0,.string ⟨#[]⟩,.int .i64 0] 24)
       go_simp
       (try rw [hw])
       (try rw [hc])
       have hnx2:¬ Fx c2:=hc ▸ hx.fresh
       have hny2:¬ Fy c2:=hc ▸ hy.fresh
       have hnz:c1 ≠ c2:=by have:=(Array.getElem?_eq_some_iff.1 hZ1).1;omega
       have hbo2:bx ≤ c2:=hc ▸ hBx
       replace hx:=hx.below hbX.size hb
       replace hy:=hy.below hbX.size hb
       replace hZ1:=(hb.block _ (Array.getElem?_eq_some_iff.1 hZ1).1).trans hZ1
       replace hX:=hX.below hb
       replace hBx:=Nat.le_trans hBx hb.size
       replace hbX:=hbX.trans (hb.mono hbX.size)
       clear hb hw hc
       refine hK.out _ _ ?_ (fun hHeld=>?_)
       ·exact HF.out _ hbX
       clear hK K
       (try simp only [Act.put,pA,pB,pC])
       refine wpAnyH_ready (rs:=[6]) (by kernel_rfl) (by simp) ?_
       refine (readyR rfl (fun K hK=>?_) AllReadyH.nil)
       have hoS:(#[.int .i64 kk,.int .i64 ki,.int .i64 kg,.string kn,.string kf,.int .i64 ka,.slice px nk cx,.string kb,.int .i64 kz]:Array Value).all (·.oneCell') = true:=all_oneCell_toArray (nineL_one (f:=⟨kk,ki,kg,kn,kf,ka,kb,kz⟩) (u:=.slice px nk cx) rfl)
       obtain ⟨xs,hw,hT,hbN,hZN,hoth⟩:=nset hbX hlo1 #[.int .i64 kk,.int .i64 ki,.int .i64 kg,.string kn,.string kf,.int .i64 ka,.slice px nk cx,.string kb,.int .i64 kz] hZ1
       refine step_store_run (by rfl) 24 (.tmp 28) (.tmp 184) rfl (p:=⟨_,0,none⟩) rfl rfl (run_storeVar_row _ _ 24 24 _ #[.int .i64 kk,.int .i64 ki,.int .i64 kg,.string kn,.string kf,.int .i64 ka,.slice px nk cx,.string kb,.int .i64 kz] hZ1 hsz9 rfl hoS) ?_
       (try rw [hw])
       replace hx:=hx.touch hbX.size hT (fun g (e:g = c1)=>by rw [e];exact hnx1) (fun g (e:g = c1)=>by rw [e];exact hlo1)
       replace hy:=hy.touch hbX.size hT (fun g (e:g = c1)=>by rw [e];exact hny1) (fun g (e:g = c1)=>by rw [e];exact hlo1)
       replace hX:=hX.touchS hT (fun g (e:g = c1)=>by rw [e];exact ⟨hbo1,box24 hZ1⟩)
       replace hZ2:=(hoth c2 (Ne.symm hnz)).trans hZ2
       replace hBx:=Nat.le_trans hBx hT.size
       clear hbX hZ1 hw hT hoth
       have hbX:=hbN
       have hZ1:=hZN
       clear hbN hZN
       clear hoS
       refine hK.out _ _ ?_ (fun hHeld=>?_)
       ·exact HF.out _ hbX
       clear hK K
       (try simp only [Act.put,pA,pB,pC])
       refine wpAnyH_ready (rs:=[7]) (by kernel_rfl) (by simp) ?_
       refine (readyR rfl (fun K hK=>?_) AllReadyH.nil)
       have hoS:(#[.int .i64 vk,.int .i64 vi,.int .i64 vg,.string vn,.string vf,.int .i64 va,.slice py nv cy,.string vb,.int .i64 vz]:Array Value).all (·.oneCell') = true:=all_oneCell_toArray (nineL_one (f:=⟨vk,vi,vg,vn,vf,va,vb,vz⟩) (u:=.slice py nv cy) rfl)
       obtain ⟨xs,hw,hT,hbN,hZN,hoth⟩:=nset hbX hlo2 #[.int .i64 vk,.int .i64 vi,.int .i64 vg,.string vn,.string vf,.int .i64 va,.slice py nv cy,.string vb,.int .i64 vz] hZ2
       refine step_store_run (by rfl) 24 (.tmp 29) (.tmp 186) rfl (p:=⟨_,0,none⟩) rfl rfl (run_storeVar_row _ _ 24 24 _ #[.int .i64 vk,.int .i64 vi,.int .i64 vg,.string vn,.string vf,.int .i64 va,.slice py nv cy,.string vb,.int .i64 vz] hZ2 hsz9 rfl hoS) ?_
       (try rw [hw])
       replace hx:=hx.touch hbX.size hT (fun g (e:g = c2)=>by rw [e];exact hnx2) (fun g (e:g = c2)=>by rw [e];exact hlo2)
       replace hy:=hy.touch hbX.size hT (fun g (e:g = c2)=>by rw [e];exact hny2) (fun g (e:g = c2)=>by rw [e];exact hlo2)
       replace hX:=hX.touchS hT (fun g (e:g = c2)=>by rw [e];exact ⟨hbo2,box24 hZ2⟩)
       replace hZ1:=(hoth c1 hnz).trans hZ1
       replace hBx:=Nat.le_trans hBx hT.size
       clear hbX hZ2 hw hT hoth
       have hbX:=hbN
       have hZ2:=hZN
       clear hbN hZN
       clear hoS
       refine hK.out _ _ ?_ (fun hHeld=>?_)
       ·exact HF.out _ hbX
       clear hK K
       (try simp only [Act.put,pA,pB,pC])
       refine wpAnyH_done (by kernel_rfl) ?_ _
       go_wp2_with fail
       go_meet
       exact ⟨_,_,Fx,Fy,_,_,_,_,rfl,rfl,⟨hX.less (fun g e=>by rcases e with e | e;exact (hx.inr g e).1;exact (hy.inr g e).1),Nat.le_trans hzx hBx,hb0.size,hbX,hx.weak hb0.size hzx,hy.weak hb0.size hzx,hne⟩,hZ1,hZ2,hnx1,hny1,hnx2,hny2⟩
      ·obtain ⟨c2,xa,hc,hw,hb,hZ2,hlo2⟩:=nbox hbX (.cells #[.int .i64 0,.int .i64 0,.int .i64 0,.string ⟨#[]⟩,.string ⟨#[]⟩,.int .i64 0,.slice none 0 0,.string ⟨#[]⟩,.int .i64 0] 24)
       go_simp
       (try rw [hw])
       (try rw [hc])
       have hnx2:¬ Fx c2:=hc ▸ hx.fresh
       have hnz:c1 ≠ c2:=by have:=(Array.getElem?_eq_some_iff.1 hZ1).1;omega
       have hbo2:bx ≤ c2:=hc ▸ hBx
       replace hx:=hx.below hbX.size hb
       replace hZ1:=(hb.block _ (Array.getElem?_eq_some_iff.1 hZ1).1).trans hZ1
       replace hX:=hX.below hb
       replace hBx:=Nat.le_trans hBx hb.size
       replace hbX:=hbX.trans (hb.mono hbX.size)
       clear hb hw hc
       refine hK.out _ _ ?_ (fun hHeld=>?_)
       ·exact HF.out _ hbX
       clear hK K
       (try simp only [Act.put,pA,pB,pC])
       refine wpAnyH_ready (rs:=[3]) (by kernel_rfl) (by simp) ?_
       refine (readyR rfl (fun K hK=>?_) AllReadyH.nil)
       go_simp
       refine (HLv2.out w5 HB5.out bx (Nat.le_trans hb0.size hzx) _ hbX hBx (Nat.lt_of_lt_of_le h0w hbX.size)).mono ?_
       rintro e y1 ⟨Fy,py,cy,rfl,hn,hb,hf⟩
       have hny1:=old_no hf hZ1
       have hny2:=old_no hf hZ2
       have hne:∀ g,Fx g→¬ Fy g:=fun g h1 h2=>by have:=(hx.inr g h1).2;have:=hf g h2;omega
       replace hx:=hx.below hbX.size hb
       replace hZ1:=(hb.block _ (Array.getElem?_eq_some_iff.1 hZ1).1).trans hZ1
       replace hZ2:=(hb.block _ (Array.getElem?_eq_some_iff.1 hZ2).1).trans hZ2
       replace hX:=hX.below hb
       replace hBx:=Nat.le_trans hBx hb.size
       replace hbX:=hbX.trans (hb.mono hbX.size)
       have hy:=hn
       clear hn hb hf
       go_wp2_with fail
       refine hK.out _ _ ?_ (fun hHeld=>?_)
       ·exact HF.out _ hbX
       clear hK K
       (try simp only [Act.put,pA,pB,pC])
       refine wpAnyH_ready (rs:=[6]) (by kernel_rfl) (by simp) ?_
       refine (readyR rfl (fun K hK=>?_) AllReadyH.nil)
       have hoS:(#[.int .i64 kk,.int .i64 ki,.int .i64 kg,.string kn,.string kf,.int .i64 ka,.slice px nk cx,.string kb,.int .i64 kz]:Array Value).all (·.oneCell') = true:=all_oneCell_toArray (nineL_one (f:=⟨kk,ki,kg,kn,kf,ka,kb,kz⟩) (u:=.slice px nk cx) rfl)
       obtain ⟨xs,hw,hT,hbN,hZN,hoth⟩:=nset hbX hlo1 #[.int .i64 kk,.int .i64 ki,.int .i64 kg,.string kn,.string kf,.int .i64 ka,.slice px nk cx,.string kb,.int .i64 kz] hZ1
       refine step_store_run (by rfl) 24 (.tmp 28) (.tmp 184) rfl (p:=⟨_,0,none⟩) rfl rfl (run_storeVar_row _ _ 24 24 _ #[.int .i64 kk,.int .i64 ki,.int .i64 kg,.string kn,.string kf,.int .i64 ka,.slice px nk cx,.string kb,.int .i64 kz] hZ1 hsz9 rfl hoS) ?_
       (try rw [hw])
       replace hx:=hx.touch hbX.size hT (fun g (e:g = c1)=>by rw [e];exact hnx1) (fun g (e:g = c1)=>by rw [e];exact hlo1)
       replace hy:=hy.touch hbX.size hT (fun g (e:g = c1)=>by rw [e];exact hny1) (fun g (e:g = c1)=>by rw [e];exact hlo1)
       replace hX:=hX.touchS hT (fun g (e:g = c1)=>by rw [e];exact ⟨hbo1,box24 hZ1⟩)
       replace hZ2:=(hoth c2 (Ne.symm hnz)).trans hZ2
       replace hBx:=Nat.le_trans hBx hT.size
       clear hbX hZ1 hw hT hoth
       have hbX:=hbN
       have hZ1:=hZN
       clear hbN hZN
       clear hoS
       refine hK.out _ _ ?_ (fun hHeld=>?_)
       ·exact HF.out _ hbX
       clear hK K
       (try simp only [Act.put,pA,pB,pC])
       refine wpAnyH_ready (rs:=[7]) (by kernel_rfl) (by simp) ?_
       refine (readyR rfl (fun K hK=>?_) AllReadyH.nil)
       have hoS:(#[.int .i64 vk,.int .i64 vi,.int .i64 vg,.string vn,.string vf,.int .i64 va,.slice py nv cy,.string vb,.int .i64 vz]:Array Value).all (·.oneCell') = true:=all_oneCell_toArray (nineL_one (f:=⟨vk,vi,vg,vn,vf,va,vb,vz⟩) (u:=.slice py nv cy) rfl)
       obtain ⟨xs,hw,hT,hbN,hZN,hoth⟩:=nset hbX hlo2 #[.int .i64 vk,.int .i64 vi,.int .i64 vg,.string vn,.string vf,.int .i64 va,.slice py nv cy,.string vb,.int .i64 vz] hZ2
       refine step_store_run (by rfl) 24 (.tmp 29) (.tmp 186) rfl (p:=⟨_,0,none⟩) rfl rfl (run_storeVar_row _ _ 24 24 _ #[.int .i64 vk,.int .i64 vi,.int .i64 vg,.string vn,.string vf,.int .i64 va,.slice py nv cy,.string vb,.int .i64 vz] hZ2 hsz9 rfl hoS) ?_
       (try rw [hw])
       replace hx:=hx.touch hbX.size hT (fun g (e:g = c2)=>by rw [e];exact hnx2) (fun g (e:g = c2)=>by rw [e];exact hlo2)
       replace hy:=hy.touch hbX.size hT (fun g (e:g = c2)=>by rw [e];exact hny2) (fun g (e:g = c2)=>by rw [e];exact hlo2)
       replace hX:=hX.touchS hT (fun g (e:g = c2)=>by rw [e];exact ⟨hbo2,box24 hZ2⟩)
       replace hZ1:=(hoth c1 hnz).trans hZ1
       replace hBx:=Nat.le_trans hBx hT.size
       clear hbX hZ2 hw hT hoth
       have hbX:=hbN
       have hZ2:=hZN
       clear hbN hZN
       clear hoS
       refine hK.out _ _ ?_ (fun hHeld=>?_)
       ·exact HF.out _ hbX
       clear hK K
       (try simp only [Act.put,pA,pB,pC])
       refine wpAnyH_done (by kernel_rfl) ?_ _
       go_wp2_with fail
       go_meet
       exact ⟨_,_,Fx,Fy,_,_,_,_,rfl,rfl,⟨hX.less (fun g e=>by rcases e with e | e;exact (hx.inr g e).1;exact (hy.inr g e).1),Nat.le_trans hzx hBx,hb0.size,hbX,hx.weak hb0.size hzx,hy.weak hb0.size hzx,hne⟩,hZ1,hZ2,hnx1,hny1,hnx2,hny2⟩
     ·obtain ⟨c2,xa,hc,hw,hb,hZ2,hlo2⟩:=nbox hbX (.cells #[.int .i64 0,.int .i64 0,.int .i64 0,.string ⟨#[]⟩,.string ⟨#[]⟩,.int .i64 0,.slice none 0 0,.string ⟨#[]⟩,.int .i64 0] 24)
      go_simp
      (try rw [hw])
      (try rw [hc])
      have hnz:c1 ≠ c2:=by have:=(Array.getElem?_eq_some_iff.1 hZ1).1;omega
      have hbo2:bx ≤ c2:=hc ▸ hBx
      replace hZ1:=(hb.block _ (Array.getElem?_eq_some_iff.1 hZ1).1).trans hZ1
      replace hX:=hX.below hb
      replace hBx:=Nat.le_trans hBx hb.size
      replace hbX:=hbX.trans (hb.mono hbX.size)
      clear hb hw hc
      refine hK.out _ _ ?_ (fun hHeld=>?_)
      ·exact HF.out _ hbX
      clear hK K
      (try simp only [Act.put,pA,pB,pC])
      refine wpAnyH_ready (rs:=[1]) (by kernel_rfl) (by simp) ?_
      refine (readyR rfl (fun K hK=>?_) AllReadyH.nil)
      go_simp
      refine (HLk2.out w5 HB5.out bx (Nat.le_trans hb0.size hzx) _ hbX hBx (Nat.lt_of_lt_of_le h0w hbX.size)).mono ?_
      rintro e y1 ⟨Fx,px,cx,rfl,hn,hb,hf⟩
      have hnx1:=old_no hf hZ1
      have hnx2:=old_no hf hZ2
      replace hZ1:=(hb.block _ (Array.getElem?_eq_some_iff.1 hZ1).1).trans hZ1
      replace hZ2:=(hb.block _ (Array.getElem?_eq_some_iff.1 hZ2).1).trans hZ2
      replace hX:=hX.below hb
      replace hBx:=Nat.le_trans hBx hb.size
      replace hbX:=hbX.trans (hb.mono hbX.size)
      have hx:=hn
      clear hn hb hf
      go_wp2_with fail
      refine hK.out _ _ ?_ (fun hHeld=>?_)
      ·exact HF.out _ hbX
      clear hK K
      (try simp only [Act.put,pA,pB,pC])
      refine wpAnyH_ready (rs:=[3]) (by kernel_rfl) (by simp) ?_
      refine (readyR rfl (fun K hK=>?_) AllReadyH.nil)
      go_simp
      refine (HLv2.out w5 HB5.out bx (Nat.le_trans hb0.size hzx) _ hbX hBx (Nat.lt_of_lt_of_le h0w hbX.size)).mono ?_
      rintro e y1 ⟨Fy,py,cy,rfl,hn,hb,hf⟩
      have hny1:=old_no hf hZ1
      have hny2:=old_no hf hZ2
      have hne:∀ g,Fx g→¬ Fy g:=fun g h1 h2=>by have:=(hx.inr g h1).2;have:=hf g h2;omega
      replace hx:=hx.below hbX.size hb
      replace hZ1:=(hb.block _ (Array.getElem?_eq_some_iff.1 hZ1).1).trans hZ1
      replace hZ2:=(hb.block _ (Array.getElem?_eq_some_iff.1 hZ2).1).trans hZ2
      replace hX:=hX.below hb
      replace hBx:=Nat.le_trans hBx hb.size
      replace hbX:=hbX.trans (hb.mono hbX.size)
      have hy:=hn
      clear hn hb hf
      go_wp2_with fail
      refine hK.out _ _ ?_ (fun hHeld=>?_)
      ·exact HF.out _ hbX
      clear hK K
      (try simp only [Act.put,pA,pB,pC])
      refine wpAnyH_ready (rs:=[6]) (by kernel_rfl) (by simp) ?_
      refine (readyR rfl (fun K hK=>?_) AllReadyH.nil)
      have hoS:(#[.int .i64 kk,.int .i64 ki,.int .i64 kg,.string kn,.string kf,.int .i64 ka,.slice px nk cx,.string kb,.int .i64 kz]:Array Value).all (·.oneCell') = true:=all_oneCell_toArray (nineL_one (f:=⟨kk,ki,kg,kn,kf,ka,kb,kz⟩) (u:=.slice px nk cx) rfl)
      obtain ⟨xs,hw,hT,hbN,hZN,hoth⟩:=nset hbX hlo1 #[.int .i64 kk,.int .i64 ki,.int .i64 kg,.string kn,.string kf,.int .i64 ka,.slice px nk cx,.string kb,.int .i64 kz] hZ1
      refine step_store_run (by rfl) 24 (.tmp 28) (.tmp 184) rfl (p:=⟨_,0,none⟩) rfl rfl (run_storeVar_row _ _ 24 24 _ #[.int .i64 kk,.int .i64 ki,.int .i64 kg,.string kn,.string kf,.int .i64 ka,.slice px nk cx,.string kb,.int .i64 kz] hZ1 hsz9 rfl hoS) ?_
      (try rw [hw])
      replace hx:=hx.touch hbX.size hT (fun g (e:g = c1)=>by rw [e];exact hnx1) (fun g (e:g = c1)=>by rw [e];exact hlo1)
      replace hy:=hy.touch hbX.size hT (fun g (e:g = c1)=>by rw [e];exact hny1) (fun g (e:g = c1)=>by rw [e];exact hlo1)
      replace hX:=hX.touchS hT (fun g (e:g = c1)=>by rw [e];exact ⟨hbo1,box24 hZ1⟩)
      replace hZ2:=(hoth c2 (Ne.symm hnz)).trans hZ2
      replace hBx:=Nat.le_trans hBx hT.size
      clear hbX hZ1 hw hT hoth
      have hbX:=hbN
      have hZ1:=hZN
      clear hbN hZN
      clear hoS
      refine hK.out _ _ ?_ (fun hHeld=>?_)
      ·exact HF.out _ hbX
      clear hK K
      (try simp only [Act.put,pA,pB,pC])
      refine wpAnyH_ready (rs:=[7]) (by kernel_rfl) (by simp) ?_
      refine (readyR rfl (fun K hK=>?_) AllReadyH.nil)
      have hoS:(#[.int .i64 vk,.int .i64 vi,.int .i64 vg,.string vn,.string vf,.int .i64 va,.slice py nv cy,.string vb,.int .i64 vz]:Array Value).all (·.oneCell') = true:=all_oneCell_toArray (nineL_one (f:=⟨vk,vi,vg,vn,vf,va,vb,vz⟩) (u:=.slice py nv cy) rfl)
      obtain ⟨xs,hw,hT,hbN,hZN,hoth⟩:=nset hbX hlo2 #[.int .i64 vk,.int .i64 vi,.int .i64 vg,.string vn,.string vf,.int .i64 va,.slice py nv cy,.string vb,.int .i64 vz] hZ2
      refine step_store_run (by rfl) 24 (.tmp 29) (.tmp 186) rfl (p:=⟨_,0,none⟩) rfl rfl (run_storeVar_row _ _ 24 24 _ #[.int .i64 vk,.int .i64 vi,.int .i64 vg,.string vn,.string vf,.int .i64 va,.slice py nv cy,.string vb,.int .i64 vz] hZ2 hsz9 rfl hoS) ?_
      (try rw [hw])
      replace hx:=hx.touch hbX.size hT (fun g (e:g = c2)=>by rw [e];exact hnx2) (fun g (e:g = c2)=>by rw [e];exact hlo2)
      replace hy:=hy.touch hbX.size hT (fun g (e:g = c2)=>by rw [e];exact hny2) (fun g (e:g = c2)=>by rw [e];exact hlo2)
      replace hX:=hX.touchS hT (fun g (e:g = c2)=>by rw [e];exact ⟨hbo2,box24 hZ2⟩)
      replace hZ1:=(hoth c1 hnz).trans hZ1
      replace hBx:=Nat.le_trans hBx hT.size
      clear hbX hZ2 hw hT hoth
      have hbX:=hbN
      have hZ2:=hZN
      clear hbN hZN
      clear hoS
      refine hK.out _ _ ?_ (fun hHeld=>?_)
      ·exact HF.out _ hbX
      clear hK K
      (try simp only [Act.put,pA,pB,pC])
      refine wpAnyH_done (by kernel_rfl) ?_ _
      go_wp2_with fail
      go_meet
      exact ⟨_,_,Fx,Fy,_,_,_,_,rfl,rfl,⟨hX.less (fun g e=>by rcases e with e | e;exact (hx.inr g e).1;exact (hy.inr g e).1),Nat.le_trans hzx hBx,hb0.size,hbX,hx.weak hb0.size hzx,hy.weak hb0.size hzx,hne⟩,hZ1,hZ2,hnx1,hny1,hnx2,hny2⟩
    ·obtain ⟨c2,xa,hc,hw,hb,hZ2,hlo2⟩:=nbox hbX (.cells #[.int .i64 0,.int .i64 0,.int .i64 0,.string ⟨#[]⟩,.string ⟨#[]⟩,.int .i64 0,.slice none 0 0,.string ⟨#[]⟩,.int .i64 0] 24)
     go_simp
     (try rw [hw])
     (try rw [hc])
     have hbo2:bx ≤ c2:=hc ▸ hBx
     replace hX:=hX.below hb
     replace hBx:=Nat.le_trans hBx hb.size
     replace hbX:=hbX.trans (hb.mono hbX.size)
     clear hb hw hc
     refine hK.out _ _ ?_ (fun hHeld=>?_)
     ·exact HF.out _ hbX
     clear hK K
     (try simp only [Act.put,pA,pB,pC])
     refine wpAnyH_ready (rs:=[1,4]) (by kernel_rfl) (by simp) ?_
     refine (readyR rfl (fun K hK=>?_) (readyR rfl (fun K hK=>?_) AllReadyH.nil))
     ·go_simp
      refine (HLk2.out w5 HB5.out bx (Nat.le_trans hb0.size hzx) _ hbX hBx (Nat.lt_of_lt_of_le h0w hbX.size)).mono ?_
      rintro e y1 ⟨Fx,px,cx,rfl,hn,hb,hf⟩
      have hnx2:=old_no hf hZ2
      replace hZ2:=(hb.block _ (Array.getElem?_eq_some_iff.1 hZ2).1).trans hZ2
      replace hX:=hX.below hb
      replace hBx:=Nat.le_trans hBx hb.size
      replace hbX:=hbX.trans (hb.mono hbX.size)
      have hx:=hn
      clear hn hb hf
      go_wp2_with fail
      refine hK.out _ _ ?_ (fun hHeld=>?_)
      ·exact HF.out _ hbX
      clear hK K
      (try simp only [Act.put,pA,pB,pC])
      refine wpAnyH_ready (rs:=[3,4]) (by kernel_rfl) (by simp) ?_
      refine (readyR rfl (fun K hK=>?_) (readyR rfl (fun K hK=>?_) AllReadyH.nil))
      ·go_simp
       refine (HLv2.out w5 HB5.out bx (Nat.le_trans hb0.size hzx) _ hbX hBx (Nat.lt_of_lt_of_le h0w hbX.size)).mono ?_
       rintro e y1 ⟨Fy,py,cy,rfl,hn,hb,hf⟩
       have hny2:=old_no hf hZ2
       have hne:∀ g,Fx g→¬ Fy g:=fun g h1 h2=>by have:=(hx.inr g h1).2;have:=hf g h2;omega
       replace hx:=hx.below hbX.size hb
       replace hZ2:=(hb.block _ (Array.getElem?_eq_some_iff.1 hZ2).1).trans hZ2
       replace hX:=hX.below hb
       replace hBx:=Nat.le_trans hBx hb.size
       replace hbX:=hbX.trans (hb.mono hbX.size)
       have hy:=hn
       clear hn hb hf
       go_wp2_with fail
       refine hK.out _ _ ?_ (fun hHeld=>?_)
       ·exact HF.out _ hbX
       clear hK K
       (try simp only [Act.put,pA,pB,pC])
       refine wpAnyH_ready (rs:=[4]) (by kernel_rfl) (by simp) ?_
       refine (readyR rfl (fun K hK=>?_) AllReadyH.nil)
       obtain ⟨c1,xa,hc,hw,hb,hZ1,hlo1⟩:=nbox hbX (.cells #[.int .i64 0,.int .i64 0,.int .i64 0,.string ⟨#[]⟩,.string ⟨#[]⟩,.int .i64 0,.slice none 0 0,.string ⟨#[]⟩,.int .i64 0] 24)
       go_simp
       (try rw [hw])
       (try rw [hc])
       have hnx1:¬ Fx c1:=hc ▸ hx.fresh
       have hny1:¬ Fy c1:=hc ▸ hy.fresh
       have hnz:c2 ≠ c1:=by have:=(Array.getElem?_eq_some_iff.1 hZ2).1;omega
       have hbo1:bx ≤ c1:=hc ▸ hBx
       replace hx:=hx.below hbX.size hb
       replace hy:=hy.below hbX.size hb
       replace hZ2:=(hb.block _ (Array.getElem?_eq_some_iff.1 hZ2).1).trans hZ2
       replace hX:=hX.below hb
       replace hBx:=Nat.le_trans hBx hb.size
       replace hbX:=hbX.trans (hb.mono hbX.size)
       clear hb hw hc
       refine hK.out _ _ ?_ (fun hHeld=>?_)
       ·exact HF.out _ hbX
       clear hK K
       (try simp only [Act.put,pA,pB,pC])
       refine wpAnyH_ready (rs:=[6]) (by kernel_rfl) (by simp) ?_
       refine (readyR rfl (fun K hK=>?_) AllReadyH.nil)
       have hoS:(#[.int .i64 kk,.int .i64 ki,.int .i64 kg,.string kn,.string kf,.int .i64 ka,.slice px nk cx,.string kb,.int .i64 kz]:Array Value).all (·.oneCell') = true:=all_oneCell_toArray (nineL_one (f:=⟨kk,ki,kg,kn,kf,ka,kb,kz⟩) (u:=.slice px nk cx) rfl)
       obtain ⟨xs,hw,hT,hbN,hZN,hoth⟩:=nset hbX hlo1 #[.int .i64 kk,.int .i64 ki,.int .i64 kg,.string kn,.string kf,.int .i64 ka,.slice px nk cx,.string kb,.int .i64 kz] hZ1
       refine step_store_run (by rfl) 24 (.tmp 28) (.tmp 184) rfl (p:=⟨_,0,none⟩) rfl rfl (run_storeVar_row _ _ 24 24 _ #[.int .i64 kk,.int .i64 ki,.int .i64 kg,.string kn,.string kf,.int .i64 ka,.slice px nk cx,.string kb,.int .i64 kz] hZ1 hsz9 rfl hoS) ?_
       (try rw [hw])
       replace hx:=hx.touch hbX.size hT (fun g (e:g = c1)=>by rw [e];exact hnx1) (fun g (e:g = c1)=>by rw [e];exact hlo1)
       replace hy:=hy.touch hbX.size hT (fun g (e:g = c1)=>by rw [e];exact hny1) (fun g (e:g = c1)=>by rw [e];exact hlo1)
       replace hX:=hX.touchS hT (fun g (e:g = c1)=>by rw [e];exact ⟨hbo1,box24 hZ1⟩)
       replace hZ2:=(hoth c2 hnz).trans hZ2
       replace hBx:=Nat.le_trans hBx hT.size
       clear hbX hZ1 hw hT hoth
       have hbX:=hbN
       have hZ1:=hZN
       clear hbN hZN
       clear hoS
       refine hK.out _ _ ?_ (fun hHeld=>?_)
       ·exact HF.out _ hbX
       clear hK K
       (try simp only [Act.put,pA,pB,pC])
       refine wpAnyH_ready (rs:=[7]) (by kernel_rfl) (by simp) ?_
       refine (readyR rfl (fun K hK=>?_) AllReadyH.nil)
       have hoS:(#[.int .i64 vk,.int .i64 vi,.int .i64 vg,.string vn,.string vf,.int .i64 va,.slice py nv cy,.string vb,.int .i64 vz]:Array Value).all (·.oneCell') = true:=all_oneCell_toArray (nineL_one (f:=⟨vk,vi,vg,vn,vf,va,vb,vz⟩) (u:=.slice py nv cy) rfl)
       obtain ⟨xs,hw,hT,hbN,hZN,hoth⟩:=nset hbX hlo2 #[.int .i64 vk,.int .i64 vi,.int .i64 vg,.string vn,.string vf,.int .i64 va,.slice py nv cy,.string vb,.int .i64 vz] hZ2
       refine step_store_run (by rfl) 24 (.tmp 29) (.tmp 186) rfl (p:=⟨_,0,none⟩) rfl rfl (run_storeVar_row _ _ 24 24 _ #[.int .i64 vk,.int .i64 vi,.int .i64 vg,.string vn,.string vf,.int .i64 va,.slice py nv cy,.string vb,.int .i64 vz] hZ2 hsz9 rfl hoS) ?_
       (try rw [hw])
       replace hx:=hx.touch hbX.size hT (fun g (e:g = c2)=>by rw [e];exact hnx2) (fun g (e:g = c2)=>by rw [e];exact hlo2)
       replace hy:=hy.touch hbX.size hT (fun g (e:g = c2)=>by rw [e];exact hny2) (fun g (e:g = c2)=>by rw [e];exact hlo2)
       replace hX:=hX.touchS hT (fun g (e:g = c2)=>by rw [e];exact ⟨hbo2,box24 hZ2⟩)
       replace hZ1:=(hoth c1 (Ne.symm hnz)).trans hZ1
       replace hBx:=Nat.le_trans hBx hT.size
       clear hbX hZ2 hw hT hoth
       have hbX:=hbN
       have hZ2:=hZN
       clear hbN hZN
       clear hoS
       refine hK.out _ _ ?_ (fun hHeld=>?_)
       ·exact HF.out _ hbX
       clear hK K
       (try simp only [Act.put,pA,pB,pC])
       refine wpAnyH_done (by kernel_rfl) ?_ _
       go_wp2_with fail
       go_meet
       exact ⟨_,_,Fx,Fy,_,_,_,_,rfl,rfl,⟨hX.less (fun g e=>by rcases e with e | e;exact (hx.inr g e).1;exact (hy.inr g e).1),Nat.le_trans hzx hBx,hb0.size,hbX,hx.weak hb0.size hzx,hy.weak hb0.size hzx,hne⟩,hZ1,hZ2,hnx1,hny1,hnx2,hny2⟩
      ·obtain ⟨c1,xa,hc,hw,hb,hZ1,hlo1⟩:=nbox hbX (.cells #[.int .i64 0,.int .i64 0,.int .i64 0,.string ⟨#[]⟩,.string ⟨#[]⟩,.int .i64 0,.slice none 0 0,.string ⟨#[]⟩,.int .i64 0] 24)
       go_simp
       (try rw [hw])
       (try rw [hc])
       have hnx1:¬ Fx c1:=hc ▸ hx.fresh
       have hnz:c2 ≠ c1:=by have:=(Array.getElem?_eq_some_iff.1 hZ2).1;omega
       have hbo1:bx ≤ c1:=hc ▸ hBx
       replace hx:=hx.below hbX.size hb
       replace hZ2:=(hb.block _ (Array.getElem?_eq_some_iff.1 hZ2).1).trans hZ2
       replace hX:=hX.below hb
       replace hBx:=Nat.le_trans hBx hb.size
       replace hbX:=hbX.trans (hb.mono hbX.size)
       clear hb hw hc
       refine hK.out _ _ ?_ (fun hHeld=>?_)
       ·exact HF.out _ hbX
       clear hK K
       (try simp only [Act.put,pA,pB,pC])
       refine wpAnyH_ready (rs:=[3]) (by kernel_rfl) (by simp) ?_
       refine (readyR rfl (fun K hK=>?_) AllReadyH.nil)
       go_simp
       refine (HLv2.out w5 HB5.out bx (Nat.le_trans hb0.size hzx) _ hbX hBx (Nat.lt_of_lt_of_le h0w hbX.size)).mono ?_
       rintro e y1 ⟨Fy,py,cy,rfl,hn,hb,hf⟩
       have hny1:=old_no hf hZ1
       have hny2:=old_no hf hZ2
       have hne:∀ g,Fx g→¬ Fy g:=fun g h1 h2=>by have:=(hx.inr g h1).2;have:=hf g h2;omega
       replace hx:=hx.below hbX.size hb
       replace hZ1:=(hb.block _ (Array.getElem?_eq_some_iff.1 hZ1).1).trans hZ1
       replace hZ2:=(hb.block _ (Array.getElem?_eq_some_iff.1 hZ2).1).trans hZ2
       replace hX:=hX.below hb
       replace hBx:=Nat.le_trans hBx hb.size
       replace hbX:=hbX.trans (hb.mono hbX.size)
       have hy:=hn
       clear hn hb hf
       go_wp2_with fail
       refine hK.out _ _ ?_ (fun hHeld=>?_)
       ·exact HF.out _ hbX
       clear hK K
       (try simp only [Act.put,pA,pB,pC])
       refine wpAnyH_ready (rs:=[6]) (by kernel_rfl) (by simp) ?_
       refine (readyR rfl (fun K hK=>?_) AllReadyH.nil)
       have hoS:(#[.int .i64 kk,.int .i64 ki,.int .i64 kg,.string kn,.string kf,.int .i64 ka,.slice px nk cx,.string kb,.int .i64 kz]:Array Value).all (·.oneCell') = true:=all_oneCell_toArray (nineL_one (f:=⟨kk,ki,kg,kn,kf,ka,kb,kz⟩) (u:=.slice px nk cx) rfl)
       obtain ⟨xs,hw,hT,hbN,hZN,hoth⟩:=nset hbX hlo1 #[.int .i64 kk,.int .i64 ki,.int .i64 kg,.string kn,.string kf,.int .i64 ka,.slice px nk cx,.string kb,.int .i64 kz] hZ1
       refine step_store_run (by rfl) 24 (.tmp 28) (.tmp 184) rfl (p:=⟨_,0,none⟩) rfl rfl (run_storeVar_row _ _ 24 24 _ #[.int .i64 kk,.int .i64 ki,.int .i64 kg,.string kn,.string kf,.int .i64 ka,.slice px nk cx,.string kb,.int .i64 kz] hZ1 hsz9 rfl hoS) ?_
       (try rw [hw])
       replace hx:=hx.touch hbX.size hT (fun g (e:g = c1)=>by rw [e];exact hnx1) (fun g (e:g = c1)=>by rw [e];exact hlo1)
       replace hy:=hy.touch hbX.size hT (fun g (e:g = c1)=>by rw [e];exact hny1) (fun g (e:g = c1)=>by rw [e];exact hlo1)
       replace hX:=hX.touchS hT (fun g (e:g = c1)=>by rw [e];exact ⟨hbo1,box24 hZ1⟩)
       replace hZ2:=(hoth c2 hnz).trans hZ2
       replace hBx:=Nat.le_trans hBx hT.size
       clear hbX hZ1 hw hT hoth
       have hbX:=hbN
       have hZ1:=hZN
       clear hbN hZN
       clear hoS
       refine hK.out _ _ ?_ (fun hHeld=>?_)
       ·exact HF.out _ hbX
       clear hK K
       (try simp only [Act.put,pA,pB,pC])
       refine wpAnyH_ready (rs:=[7]) (by kernel_rfl) (by simp) ?_
       refine (readyR rfl (fun K hK=>?_) AllReadyH.nil)
       have hoS:(#[.int .i64 vk,.int .i64 vi,.int .i64 vg,.string vn,.string vf,.int .i64 va,.slice py nv cy,.string vb,.int .i64 vz]:Array Value).all (·.oneCell') = true:=all_oneCell_toArray (nineL_one (f:=⟨vk,vi,vg,vn,vf,va,vb,vz⟩) (u:=.slice py nv cy) rfl)
       obtain ⟨xs,hw,hT,hbN,hZN,hoth⟩:=nset hbX hlo2 #[.int .i64 vk,.int .i64 vi,.int .i64 vg,.string vn,.string vf,.int .i64 va,.slice py nv cy,.string vb,.int .i64 vz] hZ2
       refine step_store_run (by rfl) 24 (.tmp 29) (.tmp 186) rfl (p:=⟨_,0,none⟩) rfl rfl (run_storeVar_row _ _ 24 24 _ #[.int .i64 vk,.int .i64 vi,.int .i64 vg,.string vn,.string vf,.int .i64 va,.slice py nv cy,.string vb,.int .i64 vz] hZ2 hsz9 rfl hoS) ?_
       (try rw [hw])
       replace hx:=hx.touch hbX.size hT (fun g (e:g = c2)=>by rw [e];exact hnx2) (fun g (e:g = c2)=>by rw [e];exact hlo2)
       replace hy:=hy.touch hbX.size hT (fun g (e:g = c2)=>by rw [e];exact hny2) (fun g (e:g = c2)=>by rw [e];exact hlo2)
       replace hX:=hX.touchS hT (fun g (e:g = c2)=>by rw [e];exact ⟨hbo2,box24 hZ2⟩)
       replace hZ1:=(hoth c1 (Ne.symm hnz)).trans hZ1
       replace hBx:=Nat.le_trans hBx hT.size
       clear hbX hZ2 hw hT hoth
       have hbX:=hbN
       have hZ2:=hZN
       clear hbN hZN
       clear hoS
       refine hK.out _ _ ?_ (fun hHeld=>?_)
       ·exact HF.out _ hbX
       clear hK K
       (try simp only [Act.put,pA,pB,pC])
       refine wpAnyH_done (by kernel_rfl) ?_ _
       go_wp2_with fail
       go_meet
       exact ⟨_,_,Fx,Fy,_,_,_,_,rfl,rfl,⟨hX.less (fun g e=>by rcases e with e | e;exact (hx.inr g e).1;exact (hy.inr g e).1),Nat.le_trans hzx hBx,hb0.size,hbX,hx.weak hb0.size hzx,hy.weak hb0.size hzx,hne⟩,hZ1,hZ2,hnx1,hny1,hnx2,hny2⟩
     ·obtain ⟨c1,xa,hc,hw,hb,hZ1,hlo1⟩:=nbox hbX (.cells #[.int .i64 0,.int .i64 0,.int .i64 0,.string ⟨#[]⟩,.string ⟨#[]⟩,.int .i64 0,.slice none 0 0,.string ⟨#[]⟩,.int .i64 0] 24)
      go_simp
      (try rw [hw])
      (try rw [hc])
      have hnz:c2 ≠ c1:=by have:=(Array.getElem?_eq_some_iff.1 hZ2).1;omega
      have hbo1:bx ≤ c1:=hc ▸ hBx
      replace hZ2:=(hb.block _ (Array.getElem?_eq_some_iff.1 hZ2).1).trans hZ2
      replace hX:=hX.below hb
      replace hBx:=Nat.le_trans hBx hb.size
      replace hbX:=hbX.trans (hb.mono hbX.size)
      clear hb hw hc
      refine hK.out _ _ ?_ (fun hHeld=>?_)
      ·exact HF.out _ hbX
      clear hK K
      (try simp only [Act.put,pA,pB,pC])
      refine wpAnyH_ready (rs:=[1]) (by kernel_rfl) (by simp) ?_
      refine (readyR rfl (fun K hK=>?_) AllReadyH.nil)
      go_simp
      refine (HLk2.out w5 HB5.out bx (Nat.le_trans hb0.size hzx) _ hbX hBx (Nat.lt_of_lt_of_le h0w hbX.size)).mono ?_
      rintro e y1 ⟨Fx,px,cx,rfl,hn,hb,hf⟩
      have hnx1:=old_no hf hZ1
      have hnx2:=old_no hf hZ2
      replace hZ1:=(hb.block _ (Array.getElem?_eq_some_iff.1 hZ1).1).trans hZ1
      replace hZ2:=(hb.block _ (Array.getElem?_eq_some_iff.1 hZ2).1).trans hZ2
      replace hX:=hX.below hb
      replace hBx:=Nat.le_trans hBx hb.size
      replace hbX:=hbX.trans (hb.mono hbX.size)
      have hx:=hn
      clear hn hb hf
      go_wp2_with fail
      refine hK.out _ _ ?_ (fun hHeld=>?_)
      ·exact HF.out _ hbX
      clear hK K
      (try simp only [Act.put,pA,pB,pC])
      refine wpAnyH_ready (rs:=[3]) (by kernel_rfl) (by simp) ?_
      refine (readyR rfl (fun K hK=>?_) AllReadyH.nil)
      go_simp
      refine (HLv2.out w5 HB5.out bx (Nat.le_trans hb0.size hzx) _ hbX hBx (Nat.lt_of_lt_of_le h0w hbX.size)).mono ?_
      rintro e y1 ⟨Fy,py,cy,rfl,hn,hb,hf⟩
      have hny1:=old_no hf hZ1
      have hny2:=old_no hf hZ2
      have hne:∀ g,Fx g→¬ Fy g:=fun g h1 h2=>by have:=(hx.inr g h1).2;have:=hf g h2;omega
      replace hx:=hx.below hbX.size hb
      replace hZ1:=(hb.block _ (Array.getElem?_eq_some_iff.1 hZ1).1).trans hZ1
      replace hZ2:=(hb.block _ (Array.getElem?_eq_some_iff.1 hZ2).1).trans hZ2
      replace hX:=hX.below hb
      replace hBx:=Nat.le_trans hBx hb.size
      replace hbX:=hbX.trans (hb.mono hbX.size)
      have hy:=hn
      clear hn hb hf
      go_wp2_with fail
      refine hK.out _ _ ?_ (fun hHeld=>?_)
      ·exact HF.out _ hbX
      clear hK K
      (try simp only [Act.put,pA,pB,pC])
      refine wpAnyH_ready (rs:=[6]) (by kernel_rfl) (by simp) ?_
      refine (readyR rfl (fun K hK=>?_) AllReadyH.nil)
      have hoS:(#[.int .i64 kk,.int .i64 ki,.int .i64 kg,.string kn,.string kf,.int .i64 ka,.slice px nk cx,.string kb,.int .i64 kz]:Array Value).all (·.oneCell') = true:=all_oneCell_toArray (nineL_one (f:=⟨kk,ki,kg,kn,kf,ka,kb,kz⟩) (u:=.slice px nk cx) rfl)
      obtain ⟨xs,hw,hT,hbN,hZN,hoth⟩:=nset hbX hlo1 #[.int .i64 kk,.int .i64 ki,.int .i64 kg,.string kn,.string kf,.int .i64 ka,.slice px nk cx,.string kb,.int .i64 kz] hZ1
      refine step_store_run (by rfl) 24 (.tmp 28) (.tmp 184) rfl (p:=⟨_,0,none⟩) rfl rfl (run_storeVar_row _ _ 24 24 _ #[.int .i64 kk,.int .i64 ki,.int .i64 kg,.string kn,.string kf,.int .i64 ka,.slice px nk cx,.string kb,.int .i64 kz] hZ1 hsz9 rfl hoS) ?_
      (try rw [hw])
      replace hx:=hx.touch hbX.size hT (fun g (e:g = c1)=>by rw [e];exact hnx1) (fun g (e:g = c1)=>by rw [e];exact hlo1)
      replace hy:=hy.touch hbX.size hT (fun g (e:g = c1)=>by rw [e];exact hny1) (fun g (e:g = c1)=>by rw [e];exact hlo1)
      replace hX:=hX.touchS hT (fun g (e:g = c1)=>by rw [e];exact ⟨hbo1,box24 hZ1⟩)
      replace hZ2:=(hoth c2 hnz).trans hZ2
      replace hBx:=Nat.le_trans hBx hT.size
      clear hbX hZ1 hw hT hoth
      have hbX:=hbN
      have hZ1:=hZN
      clear hbN hZN
      clear hoS
      refine hK.out _ _ ?_ (fun hHeld=>?_)
      ·exact HF.out _ hbX
      clear hK K
      (try simp only [Act.put,pA,pB,pC])
      refine wpAnyH_ready (rs:=[7]) (by kernel_rfl) (by simp) ?_
      refine (readyR rfl (fun K hK=>?_) AllReadyH.nil)
      have hoS:(#[.int .i64 vk,.int .i64 vi,.int .i64 vg,.string vn,.string vf,.int .i64 va,.slice py nv cy,.string vb,.int .i64 vz]:Array Value).all (·.oneCell') = true:=all_oneCell_toArray (nineL_one (f:=⟨vk,vi,vg,vn,vf,va,vb,vz⟩) (u:=.slice py nv cy) rfl)
      obtain ⟨xs,hw,hT,hbN,hZN,hoth⟩:=nset hbX hlo2 #[.int .i64 vk,.int .i64 vi,.int .i64 vg,.string vn,.string vf,.int .i64 va,.slice py nv cy,.string vb,.int .i64 vz] hZ2
      refine step_store_run (by rfl) 24 (.tmp 29) (.tmp 186) rfl (p:=⟨_,0,none⟩) rfl rfl (run_storeVar_row _ _ 24 24 _ #[.int .i64 vk,.int .i64 vi,.int .i64 vg,.string vn,.string vf,.int .i64 va,.slice py nv cy,.string vb,.int .i64 vz] hZ2 hsz9 rfl hoS) ?_
      (try rw [hw])
      replace hx:=hx.touch hbX.size hT (fun g (e:g = c2)=>by rw [e];exact hnx2) (fun g (e:g = c2)=>by rw [e];exact hlo2)
      replace hy:=hy.touch hbX.size hT (fun g (e:g = c2)=>by rw [e];exact hny2) (fun g (e:g = c2)=>by rw [e];exact hlo2)
      replace hX:=hX.touchS hT (fun g (e:g = c2)=>by rw [e];exact ⟨hbo2,box24 hZ2⟩)
      replace hZ1:=(hoth c1 (Ne.symm hnz)).trans hZ1
      replace hBx:=Nat.le_trans hBx hT.size
      clear hbX hZ2 hw hT hoth
      have hbX:=hbN
      have hZ2:=hZN
      clear hbN hZN
      clear hoS
      refine hK.out _ _ ?_ (fun hHeld=>?_)
      ·exact HF.out _ hbX
      clear hK K
      (try simp only [Act.put,pA,pB,pC])
      refine wpAnyH_done (by kernel_rfl) ?_ _
      go_wp2_with fail
      go_meet
      exact ⟨_,_,Fx,Fy,_,_,_,_,rfl,rfl,⟨hX.less (fun g e=>by rcases e with e | e;exact (hx.inr g e).1;exact (hy.inr g e).1),Nat.le_trans hzx hBx,hb0.size,hbX,hx.weak hb0.size hzx,hy.weak hb0.size hzx,hne⟩,hZ1,hZ2,hnx1,hny1,hnx2,hny2⟩
   case rest=>as_aux_lemma =>
   clear hbX hX hBx hzx
   obtain ⟨c1,c2,Fx,Fy,px,cx,py,cy,rfl,rfl,hKp,hZ1,hZ2,hnx1,hny1,hnx2,hny2⟩:=hcut
   obtain ⟨pe,hpe⟩:∃ pe:Int,(if (vlv && vlk) = true then (0:Int) else 2) = pe:=⟨_,rfl⟩
   rw [hpe] at HPt2
   have HPe:=Lib.hid hpe
   clear hpe HLk2 HLv2
   go_upto_region 22 with (fail)
   have hb:=belowD (Below.refl wc.heap.size wc)
   replace hKp:=hKp.below hb
   replace hZ1:=(hb.block _ (Array.getElem?_eq_some_iff.1 hZ1).1).trans hZ1
   replace hZ2:=(hb.block _ (Array.getElem?_eq_some_iff.1 hZ2).1).trans hZ2
   clear hb
   refine wp_region_held_drew (S:=(fun w'=>w'.rangeAt c1 0 [.int .i64 kk,.int .i64 ki,.int .i64 kg,.string kn,.string kf,.int .i64 ka,.slice px nk cx,.string kb,.int .i64 kz]∧w'.rangeAt c2 0 [.int .i64 vk,.int .i64 vi,.int .i64 vg,.string vn,.string vf,.int .i64 va,.slice py nv cy,.string vb,.int .i64 vz])) (by kernel_rfl) ?_ (fun hHeld=>?_)
   ·exact ⟨row_rng hZ1,row_rng hZ2⟩
   generalize wc.drew = wd at *
   refine run_in [0,2,3] ?_
   (refine run_e rfl (by kernel_rfl) (by rfl) (fun _ _ _ _ h=>h) (by assumption) ?_;apply Exists.intro;refine And.intro (fun w hSw=>?_) ?_;(focus (try dsimp only at hSw);go_simp;(try with_reducible rfl));(try simp only [Act.put,pA,pB,pC]))
   refine run_r rfl (by kernel_rfl) (fun _ _ _ _ h=>h) (by assumption) (yieldsIf_load_mid (by rfl) 24 (.tmp 28) rfl c1 0 rfl [.int .i64 kk,.int .i64 ki,.int .i64 kg,.string kn,.string kf,.int .i64 ka,.slice px nk cx,.string kb,.int .i64 kz] _ (fun w hs=>hs.1) Tryz.underlying24 rfl hsz9) ?_
   (try simp only [Act.put,pA,pB,pC])
   refine run_r rfl (by kernel_rfl) (fun _ _ _ _ h=>h) (by assumption) (yieldsIf_load_mid (by rfl) 24 (.tmp 29) rfl c2 0 rfl [.int .i64 vk,.int .i64 vi,.int .i64 vg,.string vn,.string vf,.int .i64 va,.slice py nv cy,.string vb,.int .i64 vz] _ (fun w hs=>hs.2) Tryz.underlying24 rfl hsz9) ?_
   (try simp only [Act.put,pA,pB,pC])
   refine run_out ?_
   refine wpAnyH_ready (rs:=[1]) (by kernel_rfl) (by simp) ?_
   refine (readyR rfl (fun K hK=>?_) AllReadyH.nil)
   go_simp
   refine (HRf.out _).mono ?_
   rintro e y1 ⟨rfl,hb⟩
   replace hKp:=hKp.below hb
   replace hZ1:=(hb.block _ (Array.getElem?_eq_some_iff.1 hZ1).1).trans hZ1
   replace hZ2:=(hb.block _ (Array.getElem?_eq_some_iff.1 hZ2).1).trans hZ2
   clear hb
   go_wp2_with fail
   refine hK.out _ _ ?_ (fun hHeld=>?_)
   ·exact ⟨row_rng hZ1,row_rng hZ2⟩
   clear hK K
   (try simp only [Act.put,pA,pB,pC])
   refine wpAnyH_ready (rs:=[4]) (by kernel_rfl) (by simp) ?_
   refine (readyR rfl (fun K hK=>?_) AllReadyH.nil)
   go_simp
   refine (HPt2.out _ _ _ _ _ _ _ _ hKp).mono ?_
   rintro e y2 ⟨rfl,hKn,hkp,hsz⟩
   replace hZ1:=(hkp _ (Array.getElem?_eq_some_iff.1 hZ1).1 (tyOf_of hZ1)).trans hZ1
   replace hZ2:=(hkp _ (Array.getElem?_eq_some_iff.1 hZ2).1 (tyOf_of hZ2)).trans hZ2
   clear hKp hkp hsz
   have hKp:=hKn
   clear hKn
   go_wp2_with fail
   refine hK.out _ _ ?_ (fun hHeld=>?_)
   ·exact ⟨row_rng hZ1,row_rng hZ2⟩
   clear hK K
   (try simp only [Act.put,pA,pB,pC])
   refine run_in [5] ?_
   (refine run_e rfl (by kernel_rfl) (by rfl) (fun _ _ _ _ h=>h) (by assumption) ?_;apply Exists.intro;refine And.intro (fun w hSw=>?_) ?_;(focus (try dsimp only at hSw);go_simp;(try with_reducible rfl));(try simp only [Act.put,pA,pB,pC]))
   refine run_out ?_
   refine wpAnyH_done (by kernel_rfl) ?_ _
   go_upto_region 23 with (fail)
   clear HPt2
   cases vlk
   case false =>
    cases vlv
    case false =>
     have hpe:=HPe.out
     simp only [Bool.and_self,Bool.and_true,Bool.and_false,Bool.false_eq_true,if_true,if_false,reduceIte] at hpe
     subst hpe
     clear HPe
     clear HPA
     have x0:=(row_rng (x:=[.int .i64 kk,.int .i64 ki,.int .i64 kg,.string kn,.string kf,.int .i64 ka,.slice px nk cx,.string kb,.int .i64 kz]) hZ1) 0 _ rfl
     have x1:=(row_rng (x:=[.int .i64 kk,.int .i64 ki,.int .i64 kg,.string kn,.string kf,.int .i64 ka,.slice px nk cx,.string kb,.int .i64 kz]) hZ1) 1 _ rfl
     have x2:=(row_rng (x:=[.int .i64 kk,.int .i64 ki,.int .i64 kg,.string kn,.string kf,.int .i64 ka,.slice px nk cx,.string kb,.int .i64 kz]) hZ1) 2 _ rfl
     have x3:=(row_rng (x:=[.int .i64 kk,.int .i64 ki,.int .i64 kg,.string kn,.string kf,.int .i64 ka,.slice px nk cx,.string kb,.int .i64 kz]) hZ1) 3 _ rfl
     have x4:=(row_rng (x:=[.int .i64 kk,.int .i64 ki,.int .i64 kg,.string kn,.string kf,.int .i64 ka,.slice px nk cx,.string kb,.int .i64 kz]) hZ1) 4 _ rfl
     have x5:=(row_rng (x:=[.int .i64 kk,.int .i64 ki,.int .i64 kg,.string kn,.string kf,.int .i64 ka,.slice px nk cx,.string kb,.int .i64 kz]) hZ1) 5 _ rfl
     have x6:=(row_rng (x:=[.int .i64 kk,.int .i64 ki,.int .i64 kg,.string kn,.string kf,.int .i64 ka,.slice px nk cx,.string kb,.int .i64 kz]) hZ1) 6 _ rfl
     have x7:=(row_rng (x:=[.int .i64 kk,.int .i64 ki,.int .i64 kg,.string kn,.string kf,.int .i64 ka,.slice px nk cx,.string kb,.int .i64 kz]) hZ1) 7 _ rfl
     have x8:=(row_rng (x:=[.int .i64 kk,.int .i64 ki,.int .i64 kg,.string kn,.string kf,.int .i64 ka,.slice px nk cx,.string kb,.int .i64 kz]) hZ1) 8 _ rfl
     simp only [Nat.reduceAdd] at x0 x1 x2 x3 x4 x5 x6 x7 x8
     have y0:=(HF.out _ hKp.base).1 0 _ rfl
     have y1:=(HF.out _ hKp.base).1 1 _ rfl
     have y2:=(HF.out _ hKp.base).1 2 _ rfl
     have y3:=(HF.out _ hKp.base).1 3 _ rfl
     have y4:=(HF.out _ hKp.base).1 4 _ rfl
     have y5:=(HF.out _ hKp.base).1 5 _ rfl
     have y6:=(HF.out _ hKp.base).1 6 _ rfl
     have y7:=(HF.out _ hKp.base).1 7 _ rfl
     have y8:=(HF.out _ hKp.base).1 8 _ rfl
     simp only [Nat.reduceAdd] at y0 y1 y2 y3 y4 y5 y6 y7 y8
     go_wp2_with fail
     refine (HKx.out _ _ _ _ _ _ _ _ _ hKp).mono ?_
     rintro e u1 ⟨rfl,hb⟩
     clear x0 x1 x2 x3 x4 x5 x6 x7 x8 y0 y1 y2 y3 y4 y5 y6 y7 y8
     clear HKx
     replace hKp:=hKp.below hb
     replace hZ1:=(hb.block _ (Array.getElem?_eq_some_iff.1 hZ1).1).trans hZ1
     replace hZ2:=(hb.block _ (Array.getElem?_eq_some_iff.1 hZ2).1).trans hZ2
     clear hb
     have x0:=(row_rng (x:=[.int .i64 vk,.int .i64 vi,.int .i64 vg,.string vn,.string vf,.int .i64 va,.slice py nv cy,.string vb,.int .i64 vz]) hZ2) 0 _ rfl
     have x1:=(row_rng (x:=[.int .i64 vk,.int .i64 vi,.int .i64 vg,.string vn,.string vf,.int .i64 va,.slice py nv cy,.string vb,.int .i64 vz]) hZ2) 1 _ rfl
     have x2:=(row_rng (x:=[.int .i64 vk,.int .i64 vi,.int .i64 vg,.string vn,.string vf,.int .i64 va,.slice py nv cy,.string vb,.int .i64 vz]) hZ2) 2 _ rfl
     have x3:=(row_rng (x:=[.int .i64 vk,.int .i64 vi,.int .i64 vg,.string vn,.string vf,.int .i64 va,.slice py nv cy,.string vb,.int .i64 vz]) hZ2) 3 _ rfl
     have x4:=(row_rng (x:=[.int .i64 vk,.int .i64 vi,.int .i64 vg,.string vn,.string vf,.int .i64 va,.slice py nv cy,.string vb,.int .i64 vz]) hZ2) 4 _ rfl
     have x5:=(row_rng (x:=[.int .i64 vk,.int .i64 vi,.int .i64 vg,.string vn,.string vf,.int .i64 va,.slice py nv cy,.string vb,.int .i64 vz]) hZ2) 5 _ rfl
     have x6:=(row_rng (x:=[.int .i64 vk,.int .i64 vi,.int .i64 vg,.string vn,.string vf,.int .i64 va,.slice py nv cy,.string vb,.int .i64 vz]) hZ2) 6 _ rfl
     have x7:=(row_rng (x:=[.int .i64 vk,.int .i64 vi,.int .i64 vg,.string vn,.string vf,.int .i64 va,.slice py nv cy,.string vb,.int .i64 vz]) hZ2) 7 _ rfl
     have x8:=(row_rng (x:=[.int .i64 vk,.int .i64 vi,.int .i64 vg,.string vn,.string vf,.int .i64 va,.slice py nv cy,.string vb,.int .i64 vz]) hZ2) 8 _ rfl
     simp only [Nat.reduceAdd] at x0 x1 x2 x3 x4 x5 x6 x7 x8
     have y0:=(HF.out _ hKp.base).2 0 _ rfl
     have y1:=(HF.out _ hKp.base).2 1 _ rfl
     have y2:=(HF.out _ hKp.base).2 2 _ rfl
     have y3:=(HF.out _ hKp.base).2 3 _ rfl
     have y4:=(HF.out _ hKp.base).2 4 _ rfl
     have y5:=(HF.out _ hKp.base).2 5 _ rfl
     have y6:=(HF.out _ hKp.base).2 6 _ rfl
     have y7:=(HF.out _ hKp.base).2 7 _ rfl
     have y8:=(HF.out _ hKp.base).2 8 _ rfl
     simp only [Nat.reduceAdd] at y0 y1 y2 y3 y4 y5 y6 y7 y8
     go_wp2_with fail
     refine (HKy.out _ _ _ _ _ _ _ _ _ hKp).mono ?_
     rintro e u2 ⟨rfl,hb⟩
     clear x0 x1 x2 x3 x4 x5 x6 x7 x8 y0 y1 y2 y3 y4 y5 y6 y7 y8
     clear HKy
     replace hKp:=hKp.below hb
     replace hZ1:=(hb.block _ (Array.getElem?_eq_some_iff.1 hZ1).1).trans hZ1
     replace hZ2:=(hb.block _ (Array.getElem?_eq_some_iff.1 hZ2).1).trans hZ2
     clear hb
     have y0:=(HF.out _ hKp.base).1 0 _ rfl
     have y1:=(HF.out _ hKp.base).1 1 _ rfl
     have y2:=(HF.out _ hKp.base).1 2 _ rfl
     have y3:=(HF.out _ hKp.base).1 3 _ rfl
     have y4:=(HF.out _ hKp.base).1 4 _ rfl
     have y5:=(HF.out _ hKp.base).1 5 _ rfl
     have y6:=(HF.out _ hKp.base).1 6 _ rfl
     have y7:=(HF.out _ hKp.base).1 7 _ rfl
     have y8:=(HF.out _ hKp.base).1 8 _ rfl
     simp only [Nat.reduceAdd] at y0 y1 y2 y3 y4 y5 y6 y7 y8
     go_wp2_with fail
     refine (HVk3.out _ hKp.base).mono ?_
     rintro e u3 ⟨rfl,hb⟩
     clear y0 y1 y2 y3 y4 y5 y6 y7 y8
     clear HVk3
     replace hKp:=hKp.below hb
     replace hZ1:=(hb.block _ (Array.getElem?_eq_some_iff.1 hZ1).1).trans hZ1
     replace hZ2:=(hb.block _ (Array.getElem?_eq_some_iff.1 hZ2).1).trans hZ2
     clear hb
     go_wp2_with fail
     go_ret
     exact ⟨rfl,HEnd.out _ hKp.base⟩
    case true =>
     have hpe:=HPe.out
     simp only [Bool.and_self,Bool.and_true,Bool.and_false,Bool.false_eq_true,if_true,if_false,reduceIte] at hpe
     subst hpe
     clear HPe
     clear HPA
     have x0:=(row_rng (x:=[.int .i64 kk,.int .i64 ki,.int .i64 kg,.string kn,.string kf,.int .i64 ka,.slice px nk cx,.string kb,.int .i64 kz]) hZ1) 0 _ rfl
     have x1:=(row_rng (x:=[.int .i64 kk,.int .i64 ki,.int .i64 kg,.string kn,.string kf,.int .i64 ka,.slice px nk cx,.string kb,.int .i64 kz]) hZ1) 1 _ rfl
     have x2:=(row_rng (x:=[.int .i64 kk,.int .i64 ki,.int .i64 kg,.string kn,.string kf,.int .i64 ka,.slice px nk cx,.string kb,.int .i64 kz]) hZ1) 2 _ rfl
     have x3:=(row_rng (x:=[.int .i64 kk,.int .i64 ki,.int .i64 kg,.string kn,.string kf,.int .i64 ka,.slice px nk cx,.string kb,.int .i64 kz]) hZ1) 3 _ rfl
     have x4:=(row_rng (x:=[.int .i64 kk,.int .i64 ki,.int .i64 kg,.string kn,.string kf,.int .i64 ka,.slice px nk cx,.string kb,.int .i64 kz]) hZ1) 4 _ rfl
     have x5:=(row_rng (x:=[.int .i64 kk,.int .i64 ki,.int .i64 kg,.string kn,.string kf,.int .i64 ka,.slice px nk cx,.string kb,.int .i64 kz]) hZ1) 5 _ rfl
     have x6:=(row_rng (x:=[.int .i64 kk,.int .i64 ki,.int .i64 kg,.string kn,.string kf,.int .i64 ka,.slice px nk cx,.string kb,.int .i64 kz]) hZ1) 6 _ rfl
     have x7:=(row_rng (x:=[.int .i64 kk,.int .i64 ki,.int .i64 kg,.string kn,.string kf,.int .i64 ka,.slice px nk cx,.string kb,.int .i64 kz]) hZ1) 7 _ rfl
     have x8:=(row_rng (x:=[.int .i64 kk,.int .i64 ki,.int .i64 kg,.string kn,.string kf,.int .i64 ka,.slice px nk cx,.string kb,.int .i64 kz]) hZ1) 8 _ rfl
     simp only [Nat.reduceAdd] at x0 x1 x2 x3 x4 x5 x6 x7 x8
     have y0:=(HF.out _ hKp.base).1 0 _ rfl
     have y1:=(HF.out _ hKp.base).1 1 _ rfl
     have y2:=(HF.out _ hKp.base).1 2 _ rfl
     have y3:=(HF.out _ hKp.base).1 3 _ rfl
     have y4:=(HF.out _ hKp.base).1 4 _ rfl
     have y5:=(HF.out _ hKp.base).1 5 _ rfl
     have y6:=(HF.out _ hKp.base).1 6 _ rfl
     have y7:=(HF.out _ hKp.base).1 7 _ rfl
     have y8:=(HF.out _ hKp.base).1 8 _ rfl
     simp only [Nat.reduceAdd] at y0 y1 y2 y3 y4 y5 y6 y7 y8
     go_wp2_with fail
     refine (HKx.out _ _ _ _ _ _ _ _ _ hKp).mono ?_
     rintro e u1 ⟨rfl,hb⟩
     clear x0 x1 x2 x3 x4 x5 x6 x7 x8 y0 y1 y2 y3 y4 y5 y6 y7 y8
     clear HKx
     replace hKp:=hKp.below hb
     replace hZ1:=(hb.block _ (Array.getElem?_eq_some_iff.1 hZ1).1).trans hZ1
     replace hZ2:=(hb.block _ (Array.getElem?_eq_some_iff.1 hZ2).1).trans hZ2
     clear hb
     have x0:=(row_rng (x:=[.int .i64 vk,.int .i64 vi,.int .i64 vg,.string vn,.string vf,.int .i64 va,.slice py nv cy,.string vb,.int .i64 vz]) hZ2) 0 _ rfl
     have x1:=(row_rng (x:=[.int .i64 vk,.int .i64 vi,.int .i64 vg,.string vn,.string vf,.int .i64 va,.slice py nv cy,.string vb,.int .i64 vz]) hZ2) 1 _ rfl
     have x2:=(row_rng (x:=[.int .i64 vk,.int .i64 vi,.int .i64 vg,.string vn,.string vf,.int .i64 va,.slice py nv cy,.string vb,.int .i64 vz]) hZ2) 2 _ rfl
     have x3:=(row_rng (x:=[.int .i64 vk,.int .i64 vi,.int .i64 vg,.string vn,.string vf,.int .i64 va,.slice py nv cy,.string vb,.int .i64 vz]) hZ2) 3 _ rfl
     have x4:=(row_rng (x:=[.int .i64 vk,.int .i64 vi,.int .i64 vg,.string vn,.string vf,.int .i64 va,.slice py nv cy,.string vb,.int .i64 vz]) hZ2) 4 _ rfl
     have x5:=(row_rng (x:=[.int .i64 vk,.int .i64 vi,.int .i64 vg,.string vn,.string vf,.int .i64 va,.slice py nv cy,.string vb,.int .i64 vz]) hZ2) 5 _ rfl
     have x6:=(row_rng (x:=[.int .i64 vk,.int .i64 vi,.int .i64 vg,.string vn,.string vf,.int .i64 va,.slice py nv cy,.string vb,.int .i64 vz]) hZ2) 6 _ rfl
     have x7:=(row_rng (x:=[.int .i64 vk,.int .i64 vi,.int .i64 vg,.string vn,.string vf,.int .i64 va,.slice py nv cy,.string vb,.int .i64 vz]) hZ2) 7 _ rfl
     have x8:=(row_rng (x:=[.int .i64 vk,.int .i64 vi,.int .i64 vg,.string vn,.string vf,.int .i64 va,.slice py nv cy,.string vb,.int .i64 vz]) hZ2) 8 _ rfl
     simp only [Nat.reduceAdd] at x0 x1 x2 x3 x4 x5 x6 x7 x8
     have y0:=(HF.out _ hKp.base).2 0 _ rfl
     have y1:=(HF.out _ hKp.base).2 1 _ rfl
     have y2:=(HF.out _ hKp.base).2 2 _ rfl
     have y3:=(HF.out _ hKp.base).2 3 _ rfl
     have y4:=(HF.out _ hKp.base).2 4 _ rfl
     have y5:=(HF.out _ hKp.base).2 5 _ rfl
     have y6:=(HF.out _ hKp.base).2 6 _ rfl
     have y7:=(HF.out _ hKp.base).2 7 _ rfl
     have y8:=(HF.out _ hKp.base).2 8 _ rfl
     simp only [Nat.reduceAdd] at y0 y1 y2 y3 y4 y5 y6 y7 y8
     go_wp2_with fail
     refine (HKy.out _ _ _ _ _ _ _ _ _ hKp).mono ?_
     rintro e u2 ⟨rfl,hb⟩
     clear x0 x1 x2 x3 x4 x5 x6 x7 x8 y0 y1 y2 y3 y4 y5 y6 y7 y8
     clear HKy
     replace hKp:=hKp.below hb
     replace hZ1:=(hb.block _ (Array.getElem?_eq_some_iff.1 hZ1).1).trans hZ1
     replace hZ2:=(hb.block _ (Array.getElem?_eq_some_iff.1 hZ2).1).trans hZ2
     clear hb
     have y0:=(HF.out _ hKp.base).1 0 _ rfl
     have y1:=(HF.out _ hKp.base).1 1 _ rfl
     have y2:=(HF.out _ hKp.base).1 2 _ rfl
     have y3:=(HF.out _ hKp.base).1 3 _ rfl
     have y4:=(HF.out _ hKp.base).1 4 _ rfl
     have y5:=(HF.out _ hKp.base).1 5 _ rfl
     have y6:=(HF.out _ hKp.base).1 6 _ rfl
     have y7:=(HF.out _ hKp.base).1 7 _ rfl
     have y8:=(HF.out _ hKp.base).1 8 _ rfl
     simp only [Nat.reduceAdd] at y0 y1 y2 y3 y4 y5 y6 y7 y8
     go_wp2_with fail
     refine (HVk3.out _ hKp.base).mono ?_
     rintro e u3 ⟨rfl,hb⟩
     clear y0 y1 y2 y3 y4 y5 y6 y7 y8
     clear HVk3
     replace hKp:=hKp.below hb
     replace hZ1:=(hb.block _ (Array.getElem?_eq_some_iff.1 hZ1).1).trans hZ1
     replace hZ2:=(hb.block _ (Array.getElem?_eq_some_iff.1 hZ2).1).trans hZ2
     clear hb
     go_wp2_with fail
     go_ret
     exact ⟨rfl,HEnd.out _ hKp.base⟩
   case true =>
    cases vlv
    case false =>
     have hpe:=HPe.out
     simp only [Bool.and_self,Bool.and_true,Bool.and_false,Bool.false_eq_true,if_true,if_false,reduceIte] at hpe
     subst hpe
     clear HPe
     clear HPA
     have x0:=(row_rng (x:=[.int .i64 kk,.int .i64 ki,.int .i64 kg,.string kn,.string kf,.int .i64 ka,.slice px nk cx,.string kb,.int .i64 kz]) hZ1) 0 _ rfl
     have x1:=(row_rng (x:=[.int .i64 kk,.int .i64 ki,.int .i64 kg,.string kn,.string kf,.int .i64 ka,.slice px nk cx,.string kb,.int .i64 kz]) hZ1) 1 _ rfl
     have x2:=(row_rng (x:=[.int .i64 kk,.int .i64 ki,.int .i64 kg,.string kn,.string kf,.int .i64 ka,.slice px nk cx,.string kb,.int .i64 kz]) hZ1) 2 _ rfl
     have x3:=(row_rng (x:=[.int .i64 kk,.int .i64 ki,.int .i64 kg,.string kn,.string kf,.int .i64 ka,.slice px nk cx,.string kb,.int .i64 kz]) hZ1) 3 _ rfl
     have x4:=(row_rng (x:=[.int .i64 kk,.int .i64 ki,.int .i64 kg,.string kn,.string kf,.int .i64 ka,.slice px nk cx,.string kb,.int .i64 kz]) hZ1) 4 _ rfl
     have x5:=(row_rng (x:=[.int .i64 kk,.int .i64 ki,.int .i64 kg,.string kn,.string kf,.int .i64 ka,.slice px nk cx,.string kb,.int .i64 kz]) hZ1) 5 _ rfl
     have x6:=(row_rng (x:=[.int .i64 kk,.int .i64 ki,.int .i64 kg,.string kn,.string kf,.int .i64 ka,.slice px nk cx,.string kb,.int .i64 kz]) hZ1) 6 _ rfl
     have x7:=(row_rng (x:=[.int .i64 kk,.int .i64 ki,.int .i64 kg,.string kn,.string kf,.int .i64 ka,.slice px nk cx,.string kb,.int .i64 kz]) hZ1) 7 _ rfl
     have x8:=(row_rng (x:=[.int .i64 kk,.int .i64 ki,.int .i64 kg,.string kn,.string kf,.int .i64 ka,.slice px nk cx,.string kb,.int .i64 kz]) hZ1) 8 _ rfl
     simp only [Nat.reduceAdd] at x0 x1 x2 x3 x4 x5 x6 x7 x8
     have y0:=(HF.out _ hKp.base).1 0 _ rfl
     have y1:=(HF.out _ hKp.base).1 1 _ rfl
     have y2:=(HF.out _ hKp.base).1 2 _ rfl
     have y3:=(HF.out _ hKp.base).1 3 _ rfl
     have y4:=(HF.out _ hKp.base).1 4 _ rfl
     have y5:=(HF.out _ hKp.base).1 5 _ rfl
     have y6:=(HF.out _ hKp.base).1 6 _ rfl
     have y7:=(HF.out _ hKp.base).1 7 _ rfl
     have y8:=(HF.out _ hKp.base).1 8 _ rfl
     simp only [Nat.reduceAdd] at y0 y1 y2 y3 y4 y5 y6 y7 y8
     go_wp2_with fail
     refine (HKx.out _ _ _ _ _ _ _ _ _ hKp).mono ?_
     rintro e u1 ⟨rfl,hb⟩
     clear x0 x1 x2 x3 x4 x5 x6 x7 x8 y0 y1 y2 y3 y4 y5 y6 y7 y8
     clear HKx
     replace hKp:=hKp.below hb
     replace hZ1:=(hb.block _ (Array.getElem?_eq_some_iff.1 hZ1).1).trans hZ1
     replace hZ2:=(hb.block _ (Array.getElem?_eq_some_iff.1 hZ2).1).trans hZ2
     clear hb
     have x0:=(row_rng (x:=[.int .i64 vk,.int .i64 vi,.int .i64 vg,.string vn,.string vf,.int .i64 va,.slice py nv cy,.string vb,.int .i64 vz]) hZ2) 0 _ rfl
     have x1:=(row_rng (x:=[.int .i64 vk,.int .i64 vi,.int .i64 vg,.string vn,.string vf,.int .i64 va,.slice py nv cy,.string vb,.int .i64 vz]) hZ2) 1 _ rfl
     have x2:=(row_rng (x:=[.int .i64 vk,.int .i64 vi,.int .i64 vg,.string vn,.string vf,.int .i64 va,.slice py nv cy,.string vb,.int .i64 vz]) hZ2) 2 _ rfl
     have x3:=(row_rng (x:=[.int .i64 vk,.int .i64 vi,.int .i64 vg,.string vn,.string vf,.int .i64 va,.slice py nv cy,.string vb,.int .i64 vz]) hZ2) 3 _ rfl
     have x4:=(row_rng (x:=[.int .i64 vk,.int .i64 vi,.int .i64 vg,.string vn,.string vf,.int .i64 va,.slice py nv cy,.string vb,.int .i64 vz]) hZ2) 4 _ rfl
     have x5:=(row_rng (x:=[.int .i64 vk,.int .i64 vi,.int .i64 vg,.string vn,.string vf,.int .i64 va,.slice py nv cy,.string vb,.int .i64 vz]) hZ2) 5 _ rfl
     have x6:=(row_rng (x:=[.int .i64 vk,.int .i64 vi,.int .i64 vg,.string vn,.string vf,.int .i64 va,.slice py nv cy,.string vb,.int .i64 vz]) hZ2) 6 _ rfl
     have x7:=(row_rng (x:=[.int .i64 vk,.int .i64 vi,.int .i64 vg,.string vn,.string vf,.int .i64 va,.slice py nv cy,.string vb,.int .i64 vz]) hZ2) 7 _ rfl
     have x8:=(row_rng (x:=[.int .i64 vk,.int .i64 vi,.int .i64 vg,.string vn,.string vf,.int .i64 va,.slice py nv cy,.string vb,.int .i64 vz]) hZ2) 8 _ rfl
     simp only [Nat.reduceAdd] at x0 x1 x2 x3 x4 x5 x6 x7 x8
     have y0:=(HF.out _ hKp.base).2 0 _ rfl
     have y1:=(HF.out _ hKp.base).2 1 _ rfl
     have y2:=(HF.out _ hKp.base).2 2 _ rfl
     have y3:=(HF.out _ hKp.base).2 3 _ rfl
     have y4:=(HF.out _ hKp.base).2 4 _ rfl
     have y5:=(HF.out _ hKp.base).2 5 _ rfl
     have y6:=(HF.out _ hKp.base).2 6 _ rfl
     have y7:=(HF.out _ hKp.base).2 7 _ rfl
     have y8:=(HF.out _ hKp.base).2 8 _ rfl
     simp only [Nat.reduceAdd] at y0 y1 y2 y3 y4 y5 y6 y7 y8
     go_wp2_with fail
     refine (HKy.out _ _ _ _ _ _ _ _ _ hKp).mono ?_
     rintro e u2 ⟨rfl,hb⟩
     clear x0 x1 x2 x3 x4 x5 x6 x7 x8 y0 y1 y2 y3 y4 y5 y6 y7 y8
     clear HKy
     replace hKp:=hKp.below hb
     replace hZ1:=(hb.block _ (Array.getElem?_eq_some_iff.1 hZ1).1).trans hZ1
     replace hZ2:=(hb.block _ (Array.getElem?_eq_some_iff.1 hZ2).1).trans hZ2
     clear hb
     have y0:=(HF.out _ hKp.base).1 0 _ rfl
     have y1:=(HF.out _ hKp.base).1 1 _ rfl
     have y2:=(HF.out _ hKp.base).1 2 _ rfl
     have y3:=(HF.out _ hKp.base).1 3 _ rfl
     have y4:=(HF.out _ hKp.base).1 4 _ rfl
     have y5:=(HF.out _ hKp.base).1 5 _ rfl
     have y6:=(HF.out _ hKp.base).1 6 _ rfl
     have y7:=(HF.out _ hKp.base).1 7 _ rfl
     have y8:=(HF.out _ hKp.base).1 8 _ rfl
     simp only [Nat.reduceAdd] at y0 y1 y2 y3 y4 y5 y6 y7 y8
     go_wp2_with fail
     refine (HVk3.out _ hKp.base).mono ?_
     rintro e u3 ⟨rfl,hb⟩
     clear y0 y1 y2 y3 y4 y5 y6 y7 y8
     clear HVk3
     replace hKp:=hKp.below hb
     replace hZ1:=(hb.block _ (Array.getElem?_eq_some_iff.1 hZ1).1).trans hZ1
     replace hZ2:=(hb.block _ (Array.getElem?_eq_some_iff.1 hZ2).1).trans hZ2
     clear hb
     have y0:=(HF.out _ hKp.base).2 0 _ rfl
     have y1:=(HF.out _ hKp.base).2 1 _ rfl
     have y2:=(HF.out _ hKp.base).2 2 _ rfl
     have y3:=(HF.out _ hKp.base).2 3 _ rfl
     have y4:=(HF.out _ hKp.base).2 4 _ rfl
     have y5:=(HF.out _ hKp.base).2 5 _ rfl
     have y6:=(HF.out _ hKp.base).2 6 _ rfl
     have y7:=(HF.out _ hKp.base).2 7 _ rfl
     have y8:=(HF.out _ hKp.base).2 8 _ rfl
     simp only [Nat.reduceAdd] at y0 y1 y2 y3 y4 y5 y6 y7 y8
     go_wp2_with fail
     refine (HVv3.out _ hKp.base).mono ?_
     rintro e u4 ⟨rfl,hb⟩
     clear y0 y1 y2 y3 y4 y5 y6 y7 y8
     clear HVv3
     replace hKp:=hKp.below hb
     replace hZ1:=(hb.block _ (Array.getElem?_eq_some_iff.1 hZ1).1).trans hZ1
     replace hZ2:=(hb.block _ (Array.getElem?_eq_some_iff.1 hZ2).1).trans hZ2
     clear hb
     go_wp2_with fail
     go_ret
     exact ⟨rfl,HEnd.out _ hKp.base⟩
    case true =>
    have hpe:=HPe.out
    simp only [Bool.and_self,Bool.and_true,Bool.and_false,Bool.false_eq_true,if_true,if_false,reduceIte] at hpe
    subst hpe
    clear HPe
    rw [HPA.out rfl rfl] at hKp
    clear HPA
    have x0:=(row_rng (x:=[.int .i64 kk,.int .i64 ki,.int .i64 kg,.string kn,.string kf,.int .i64 ka,.slice px nk cx,.string kb,.int .i64 kz]) hZ1) 0 _ rfl
    have x1:=(row_rng (x:=[.int .i64 kk,.int .i64 ki,.int .i64 kg,.string kn,.string kf,.int .i64 ka,.slice px nk cx,.string kb,.int .i64 kz]) hZ1) 1 _ rfl
    have x2:=(row_rng (x:=[.int .i64 kk,.int .i64 ki,.int .i64 kg,.string kn,.string kf,.int .i64 ka,.slice px nk cx,.string kb,.int .i64 kz]) hZ1) 2 _ rfl
    have x3:=(row_rng (x:=[.int .i64 kk,.int .i64 ki,.int .i64 kg,.string kn,.string kf,.int .i64 ka,.slice px nk cx,.string kb,.int .i64 kz]) hZ1) 3 _ rfl
    have x4:=(row_rng (x:=[.int .i64 kk,.int .i64 ki,.int .i64 kg,.string kn,.string kf,.int .i64 ka,.slice px nk cx,.string kb,.int .i64 kz]) hZ1) 4 _ rfl
    have x5:=(row_rng (x:=[.int .i64 kk,.int .i64 ki,.int .i64 kg,.string kn,.string kf,.int .i64 ka,.slice px nk cx,.string kb,.int .i64 kz]) hZ1) 5 _ rfl
    have x6:=(row_rng (x:=[.int .i64 kk,.int .i64 ki,.int .i64 kg,.string kn,.string kf,.int .i64 ka,.slice px nk cx,.string kb,.int .i64 kz]) hZ1) 6 _ rfl
    have x7:=(row_rng (x:=[.int .i64 kk,.int .i64 ki,.int .i64 kg,.string kn,.string kf,.int .i64 ka,.slice px nk cx,.string kb,.int .i64 kz]) hZ1) 7 _ rfl
    have x8:=(row_rng (x:=[.int .i64 kk,.int .i64 ki,.int .i64 kg,.string kn,.string kf,.int .i64 ka,.slice px nk cx,.string kb,.int .i64 kz]) hZ1) 8 _ rfl
    simp only [Nat.reduceAdd] at x0 x1 x2 x3 x4 x5 x6 x7 x8
    have y0:=(HF.out _ hKp.base).1 0 _ rfl
    have y1:=(HF.out _ hKp.base).1 1 _ rfl
    have y2:=(HF.out _ hKp.base).1 2 _ rfl
    have y3:=(HF.out _ hKp.base).1 3 _ rfl
    have y4:=(HF.out _ hKp.base).1 4 _ rfl
    have y5:=(HF.out _ hKp.base).1 5 _ rfl
    have y6:=(HF.out _ hKp.base).1 6 _ rfl
    have y7:=(HF.out _ hKp.base).1 7 _ rfl
    have y8:=(HF.out _ hKp.base).1 8 _ rfl
    simp only [Nat.reduceAdd] at y0 y1 y2 y3 y4 y5 y6 y7 y8
    go_wp2_with fail
    refine (HKx.out _ _ _ _ _ _ _ _ _ hKp).mono ?_
    rintro e u1 ⟨rfl,hb⟩
    clear x0 x1 x2 x3 x4 x5 x6 x7 x8 y0 y1 y2 y3 y4 y5 y6 y7 y8
    clear HKx
    replace hKp:=hKp.below hb
    replace hZ1:=(hb.block _ (Array.getElem?_eq_some_iff.1 hZ1).1).trans hZ1
    replace hZ2:=(hb.block _ (Array.getElem?_eq_some_iff.1 hZ2).1).trans hZ2
    clear hb
    have x0:=(row_rng (x:=[.int .i64 vk,.int .i64 vi,.int .i64 vg,.string vn,.string vf,.int .i64 va,.slice py nv cy,.string vb,.int .i64 vz]) hZ2) 0 _ rfl
    have x1:=(row_rng (x:=[.int .i64 vk,.int .i64 vi,.int .i64 vg,.string vn,.string vf,.int .i64 va,.slice py nv cy,.string vb,.int .i64 vz]) hZ2) 1 _ rfl
    have x2:=(row_rng (x:=[.int .i64 vk,.int .i64 vi,.int .i64 vg,.string vn,.string vf,.int .i64 va,.slice py nv cy,.string vb,.int .i64 vz]) hZ2) 2 _ rfl
    have x3:=(row_rng (x:=[.int .i64 vk,.int .i64 vi,.int .i64 vg,.string vn,.string vf,.int .i64 va,.slice py nv cy,.string vb,.int .i64 vz]) hZ2) 3 _ rfl
    have x4:=(row_rng (x:=[.int .i64 vk,.int .i64 vi,.int .i64 vg,.string vn,.string vf,.int .i64 va,.slice py nv cy,.string vb,.int .i64 vz]) hZ2) 4 _ rfl
    have x5:=(row_rng (x:=[.int .i64 vk,.int .i64 vi,.int .i64 vg,.string vn,.string vf,.int .i64 va,.slice py nv cy,.string vb,.int .i64 vz]) hZ2) 5 _ rfl
    have x6:=(row_rng (x:=[.int .i64 vk,.int .i64 vi,.int .i64 vg,.string vn,.string vf,.int .i64 va,.slice py nv cy,.string vb,.int .i64 vz]) hZ2) 6 _ rfl
    have x7:=(row_rng (x:=[.int .i64 vk,.int .i64 vi,.int .i64 vg,.string vn,.string vf,.int .i64 va,.slice py nv cy,.string vb,.int .i64 vz]) hZ2) 7 _ rfl
    have x8:=(row_rng (x:=[.int .i64 vk,.int .i64 vi,.int .i64 vg,.string vn,.string vf,.int .i64 va,.slice py nv cy,.string vb,.int .i64 vz]) hZ2) 8 _ rfl
    simp only [Nat.reduceAdd] at x0 x1 x2 x3 x4 x5 x6 x7 x8
    have y0:=(HF.out _ hKp.base).2 0 _ rfl
    have y1:=(HF.out _ hKp.base).2 1 _ rfl
    have y2:=(HF.out _ hKp.base).2 2 _ rfl
    have y3:=(HF.out _ hKp.base).2 3 _ rfl
    have y4:=(HF.out _ hKp.base).2 4 _ rfl
    have y5:=(HF.out _ hKp.base).2 5 _ rfl
    have y6:=(HF.out _ hKp.base).2 6 _ rfl
    have y7:=(HF.out _ hKp.base).2 7 _ rfl
    have y8:=(HF.out _ hKp.base).2 8 _ rfl
    simp only [Nat.reduceAdd] at y0 y1 y2 y3 y4 y5 y6 y7 y8
    go_wp2_with fail
    refine (HKy.out _ _ _ _ _ _ _ _ _ hKp).mono ?_
    rintro e u2 ⟨rfl,hb⟩
    clear x0 x1 x2 x3 x4 x5 x6 x7 x8 y0 y1 y2 y3 y4 y5 y6 y7 y8
    clear HKy
    replace hKp:=hKp.below hb
    replace hZ1:=(hb.block _ (Array.getElem?_eq_some_iff.1 hZ1).1).trans hZ1
    replace hZ2:=(hb.block _ (Array.getElem?_eq_some_iff.1 hZ2).1).trans hZ2
    clear hb
    have y0:=(HF.out _ hKp.base).1 0 _ rfl
    have y1:=(HF.out _ hKp.base).1 1 _ rfl
    have y2:=(HF.out _ hKp.base).1 2 _ rfl
    have y3:=(HF.out _ hKp.base).1 3 _ rfl
    have y4:=(HF.out _ hKp.base).1 4 _ rfl
    have y5:=(HF.out _ hKp.base).1 5 _ rfl
    have y6:=(HF.out _ hKp.base).1 6 _ rfl
    have y7:=(HF.out _ hKp.base).1 7 _ rfl
    have y8:=(HF.out _ hKp.base).1 8 _ rfl
    simp only [Nat.reduceAdd] at y0 y1 y2 y3 y4 y5 y6 y7 y8
    go_wp2_with fail
    refine (HVk3.out _ hKp.base).mono ?_
    rintro e u3 ⟨rfl,hb⟩
    clear y0 y1 y2 y3 y4 y5 y6 y7 y8
    clear HVk3
    replace hKp:=hKp.below hb
    replace hZ1:=(hb.block _ (Array.getElem?_eq_some_iff.1 hZ1).1).trans hZ1
    replace hZ2:=(hb.block _ (Array.getElem?_eq_some_iff.1 hZ2).1).trans hZ2
    clear hb
    have y0:=(HF.out _ hKp.base).2 0 _ rfl
    have y1:=(HF.out _ hKp.base).2 1 _ rfl
    have y2:=(HF.out _ hKp.base).2 2 _ rfl
    have y3:=(HF.out _ hKp.base).2 3 _ rfl
    have y4:=(HF.out _ hKp.base).2 4 _ rfl
    have y5:=(HF.out _ hKp.base).2 5 _ rfl
    have y6:=(HF.out _ hKp.base).2 6 _ rfl
    have y7:=(HF.out _ hKp.base).2 7 _ rfl
    have y8:=(HF.out _ hKp.base).2 8 _ rfl
    simp only [Nat.reduceAdd] at y0 y1 y2 y3 y4 y5 y6 y7 y8
    go_wp2_with fail
    refine (HVv3.out _ hKp.base).mono ?_
    rintro e u4 ⟨rfl,hb⟩
    clear y0 y1 y2 y3 y4 y5 y6 y7 y8
    clear HVv3
    replace hKp:=hKp.below hb
    replace hZ1:=(hb.block _ (Array.getElem?_eq_some_iff.1 hZ1).1).trans hZ1
    replace hZ2:=(hb.block _ (Array.getElem?_eq_some_iff.1 hZ2).1).trans hZ2
    clear hb
    have HL:=Lib.hid (row_rng (x:=[.int .i64 kk,.int .i64 ki,.int .i64 kg,.string kn,.string kf,.int .i64 ka,.slice px nk cx,.string kb,.int .i64 kz]) hZ1)
    go_wp2_with (first
     | (refine wpList_load_mid rfl 24 (.tmp 28) rfl c1 0 rfl [.int .i64 kk,.int .i64 ki,.int .i64 kg,.string kn,.string kf,.int .i64 ka,.slice px nk cx,.string kb,.int .i64 kz] _ HL.out Tryz.underlying24 rfl hsz9 ?_))
    clear HL
    refine (HSx.out _ _ _ _ _ _ _ _ _ hKp).mono ?_
    rintro e u5 ⟨rfl,hY,hT⟩
    replace hZ2:=(hT.block _ (Array.getElem?_eq_some_iff.1 hZ2).1 hnx2).trans hZ2
    clear hT hKp hZ1 HSx hnx1 hny1 hnx2
    have HL:=Lib.hid (row_rng (x:=[.int .i64 vk,.int .i64 vi,.int .i64 vg,.string vn,.string vf,.int .i64 va,.slice py nv cy,.string vb,.int .i64 vz]) hZ2)
    go_wp2_with (first
     | (refine wpList_load_mid rfl 24 (.tmp 29) rfl c2 0 rfl [.int .i64 vk,.int .i64 vi,.int .i64 vg,.string vn,.string vf,.int .i64 va,.slice py nv cy,.string vb,.int .i64 vz] _ HL.out Tryz.underlying24 rfl hsz9 ?_))
    clear HL
    refine (HSy.out _ _ _ _ _ _ _ _ hY).mono ?_
    rintro e wg ⟨rfl,hG,hBg,hbg,hT⟩
    clear hT hY hZ2 hny2 HSy
    have h0g:0 < wg.heap.size:=Nat.lt_of_lt_of_le h0w hbg.size
    have HF2:=Lib.hid (fun W (hW:Below wg.heap.size wg W)=>HF.out W (hbg.trans (hW.mono hbg.size)))
    have HGt:=Lib.hid (fun W (hW:Below wg.heap.size wg W)=>HGe2.out (by trivial) _ _ W (hG.below hW) (HB5.out.trans ((hbg.trans (hW.mono hbg.size)).mono HB5.out.size)))
    have HFt:=Lib.hid (fun W (hW:Below wg.heap.size wg W)=>HFi.out _ _ W (hG.below hW))
    have HEd:=Lib.hid (fun W (hW:Below wg.heap.size wg W)=>HEnd.out W (hbg.trans (hW.mono hbg.size)))
    clear hG hBg hbg HF HGe2 HFi HEnd hb0 hbz h0w HB5
    have hbX:=Below.refl wg.heap.size wg
    go_upto_region 29 with (fail)
    go_cut [31,32,33] from 221 to 229 (fun s31 s32 s33 wc=>∃ c F u,s31 = .pointer (some ⟨c,0,none⟩)∧s32 = .bool true∧s33 = .int .i64 0∧Below wg.heap.size wg wc∧NewI wg wc F n u v.items∧wc.heap[c]? = some (.cells #[.int .i64 vk,.int .i64 vi,.int .i64 vg,.string vn,.string vf,.int .i64 va,u,.string vb,.int .i64 vz] 24)∧¬ F c∧wg.heap.size ≤ c)
    case first=>as_aux_lemma =>
     replace hbX:=hbX.trans ((belowD (Below.refl wg.heap.size wg)).mono hbX.size)
     refine wp_region_held_drew (S:=(fun w'=>w'.rangeAt b1 0 [.int .i64 kk,.int .i64 ki,.int .i64 kg,.string kn,.string kf,.int .i64 ka,.slice pk nk ck,.string kb,.int .i64 kz])) (by kernel_rfl) ?_ (fun hHeld=>?_)
     ·exact (HF2.out _ hbX).1
     generalize hwd:wg.drew = wd at *
     clear hwd
     refine run_in [0,2] ?_
     (refine run_e rfl (by kernel_rfl) (by rfl) (fun _ _ _ _ h=>h) (by assumption) ?_;apply Exists.intro;refine And.intro (fun w hSw=>?_) ?_;(focus (try dsimp only at hSw);go_simp;(try with_reducible rfl));(try simp only [Act.put,pA,pB,pC]))
     refine run_r rfl (by kernel_rfl) (fun _ _ _ _ h=>h) (by assumption) (yieldsIf_load_mid (by rfl) 24 (.tmp 3) rfl b1 0 rfl [.int .i64 kk,.int .i64 ki,.int .i64 kg,.string kn,.string kf,.int .i64 ka,.slice pk nk ck,.string kb,.int .i64 kz] _ (fun w hs=>hs) Tryz.underlying24 rfl hsz9) ?_
     (try simp only [Act.put,pA,pB,pC])
     refine run_out ?_
     refine wpAnyH_ready (rs:=[1,8]) (by kernel_rfl) (by simp) ?_
     refine (readyR rfl (fun K hK=>?_) (readyR rfl (fun K hK=>?_) AllReadyH.nil))
     ·go_simp
      refine (HRf.out _).mono ?_
      rintro e y1 ⟨rfl,hb⟩
      replace hbX:=hbX.trans (hb.mono hbX.size)
      clear hb
      go_wp2_with fail
      refine hK.out _ _ ?_ (fun hHeld=>?_)
      ·exact (HF2.out _ hbX).1
      clear hK K
      (try simp only [Act.put,pA,pB,pC])
      refine wpAnyH_ready (rs:=[3,8]) (by kernel_rfl) (by simp) ?_
      refine (readyR rfl (fun K hK=>?_) (readyR rfl (fun K hK=>?_) AllReadyH.nil))
      ·go_simp
       refine (HGt.out _ hbX).mono ?_
       rintro e y2 ⟨F,u,rfl,hb,hN0⟩
       have hN:=hN0.low hbX.size
       have hone:=in_one hN.items
       replace hbX:=hbX.trans (hb.mono hbX.size)
       clear hb hN0
       go_wp2_with fail
       refine hK.out _ _ ?_ (fun hHeld=>?_)
       ·exact (HF2.out _ hbX).1
       clear hK K
       (try simp only [Act.put,pA,pB,pC])
       refine run_in [4,5,6,7] ?_
       iterate 4 (refine run_e rfl (by kernel_rfl) (by rfl) (fun _ _ _ _ h=>h) (by assumption) ?_;apply Exists.intro;refine And.intro (fun w hSw=>?_) ?_;(focus (try dsimp only at hSw);go_simp;(try with_reducible rfl));(try simp only [Act.put,pA,pB,pC]))
       refine run_out ?_
       refine wpAnyH_ready (rs:=[8]) (by kernel_rfl) (by simp) ?_
       refine (readyR rfl (fun K hK=>?_) AllReadyH.nil)
       obtain ⟨c1,xa,hc,hw,hb,hZ1,hlo1⟩:=nbox hbX (.cells #[.int .i64 0,.int .i64 0,.int .i64 0,.string ⟨#[]⟩,.string ⟨#[]⟩,.int .i64 0,.slice none 0 0,.string ⟨#[]⟩,.int .i64 0] 24)
       go_simp
       (try rw [hw])
       (try rw [hc])
       have hnF:¬ F c1:=hc ▸ hN.fresh
       replace hN:=hN.below hb
       replace hbX:=hbX.trans (hb.mono hbX.size)
       clear hb hw hc
       refine hK.out _ _ ?_ (fun hHeld=>?_)
       ·exact (HF2.out _ hbX).1
       clear hK K
       (try simp only [Act.put,pA,pB,pC])
       refine wpAnyH_ready (rs:=[9]) (by kernel_rfl) (by simp) ?_
       refine (readyR rfl (fun K hK=>?_) AllReadyH.nil)
       have hoS:(#[.int .i64 vk,.int .i64 vi,.int .i64 vg,.string vn,.string vf,.int .i64 va,u,.string vb,.int .i64 vz]:Array Value).all (·.oneCell') = true:=all_oneCell_toArray (nineL_one (f:=⟨vk,vi,vg,vn,vf,va,vb,vz⟩) (u:=u) hone)
       obtain ⟨xs,hw,hT,hbN,hZN,hoth⟩:=nset hbX hlo1 #[.int .i64 vk,.int .i64 vi,.int .i64 vg,.string vn,.string vf,.int .i64 va,u,.string vb,.int .i64 vz] hZ1
       refine step_store_run (by rfl) 24 (.tmp 31) (.tmp 226) rfl (p:=⟨_,0,none⟩) rfl rfl (run_storeVar_row _ _ 24 24 _ #[.int .i64 vk,.int .i64 vi,.int .i64 vg,.string vn,.string vf,.int .i64 va,u,.string vb,.int .i64 vz] hZ1 hsz9 rfl hoS) ?_
       (try rw [hw])
       replace hN:=hN.touchS hT (fun g (e:g = c1)=>by rw [e];exact hnF)
       clear hbX hZ1 hw hT hoth
       have hbX:=hbN
       have hZ1:=hZN
       clear hbN hZN
       refine hK.out _ _ ?_ (fun hHeld=>?_)
       ·exact (HF2.out _ hbX).1
       clear hK K
       (try simp only [Act.put,pA,pB,pC])
       refine run_in [10,11] ?_
       iterate 2 (refine run_e rfl (by kernel_rfl) (by rfl) (fun _ _ _ _ h=>h) (by assumption) ?_;apply Exists.intro;refine And.intro (fun w hSw=>?_) ?_;(focus (try dsimp only at hSw);go_simp;(try with_reducible rfl));(try simp only [Act.put,pA,pB,pC]))
       refine run_out ?_
       refine wpAnyH_done (by kernel_rfl) ?_ _
       go_wp2_with fail
       go_meet
       exact ⟨_,F,u,rfl,rfl,rfl,hbX,hN,hZ1,hnF,hlo1⟩
      ·obtain ⟨c1,xa,hc,hw,hb,hZ1,hlo1⟩:=nbox hbX (.cells #[.int .i64 0,.int .i64 0,.int .i64 0,.string ⟨#[]⟩,.string ⟨#[]⟩,.int .i64 0,.slice none 0 0,.string ⟨#[]⟩,.int .i64 0] 24)
       go_simp
       (try rw [hw])
       (try rw [hc])
       replace hbX:=hbX.trans (hb.mono hbX.size)
       clear hb hw hc
       refine hK.out _ _ ?_ (fun hHeld=>?_)
       ·exact (HF2.out _ hbX).1
       clear hK K
       (try simp only [Act.put,pA,pB,pC])
       refine wpAnyH_ready (rs:=[3]) (by kernel_rfl) (by simp) ?_
       refine (readyR rfl (fun K hK=>?_) AllReadyH.nil)
       go_simp
       refine (HGt.out _ hbX).mono ?_
       rintro e y2 ⟨F,u,rfl,hb,hN0⟩
       have hnF:=hN0.old hZ1
       have hN:=hN0.low hbX.size
       have hone:=in_one hN.items
       replace hZ1:=(hb.block _ (Array.getElem?_eq_some_iff.1 hZ1).1).trans hZ1
       replace hbX:=hbX.trans (hb.mono hbX.size)
       clear hb hN0
       go_wp2_with fail
       refine hK.out _ _ ?_ (fun hHeld=>?_)
       ·exact (HF2.out _ hbX).1
       clear hK K
       (try simp only [Act.put,pA,pB,pC])
       refine run_in [4,5,6,7] ?_
       iterate 4 (refine run_e rfl (by kernel_rfl) (by rfl) (fun _ _ _ _ h=>h) (by assumption) ?_;apply Exists.intro;refine And.intro (fun w hSw=>?_) ?_;(focus (try dsimp only at hSw);go_simp;(try with_reducible rfl));(try simp only [Act.put,pA,pB,pC]))
       refine run_out ?_
       refine wpAnyH_ready (rs:=[9]) (by kernel_rfl) (by simp) ?_
       refine (readyR rfl (fun K hK=>?_) AllReadyH.nil)
       have hoS:(#[.int .i64 vk,.int .i64 vi,.int .i64 vg,.string vn,.string vf,.int .i64 va,u,.string vb,.int .i64 vz]:Array Value).all (·.oneCell') = true:=all_oneCell_toArray (nineL_one (f:=⟨vk,vi,vg,vn,vf,va,vb,vz⟩) (u:=u) hone)
       obtain ⟨xs,hw,hT,hbN,hZN,hoth⟩:=nset hbX hlo1 #[.int .i64 vk,.int .i64 vi,.int .i64 vg,.string vn,.string vf,.int .i64 va,u,.string vb,.int .i64 vz] hZ1
       refine step_store_run (by rfl) 24 (.tmp 31) (.tmp 226) rfl (p:=⟨_,0,none⟩) rfl rfl (run_storeVar_row _ _ 24 24 _ #[.int .i64 vk,.int .i64 vi,.int .i64 vg,.string vn,.string vf,.int .i64 va,u,.string vb,.int .i64 vz] hZ1 hsz9 rfl hoS) ?_
       (try rw [hw])
       replace hN:=hN.touchS hT (fun g (e:g = c1)=>by rw [e];exact hnF)
       clear hbX hZ1 hw hT hoth
       have hbX:=hbN
       have hZ1:=hZN
       clear hbN hZN
       refine hK.out _ _ ?_ (fun hHeld=>?_)
       ·exact (HF2.out _ hbX).1
       clear hK K
       (try simp only [Act.put,pA,pB,pC])
       refine run_in [10,11] ?_
       iterate 2 (refine run_e rfl (by kernel_rfl) (by rfl) (fun _ _ _ _ h=>h) (by assumption) ?_;apply Exists.intro;refine And.intro (fun w hSw=>?_) ?_;(focus (try dsimp only at hSw);go_simp;(try with_reducible rfl));(try simp only [Act.put,pA,pB,pC]))
       refine run_out ?_
       refine wpAnyH_done (by kernel_rfl) ?_ _
       go_wp2_with fail
       go_meet
       exact ⟨_,F,u,rfl,rfl,rfl,hbX,hN,hZ1,hnF,hlo1⟩
     ·obtain ⟨c1,xa,hc,hw,hb,hZ1,hlo1⟩:=nbox hbX (.cells #[.int .i64 0,.int .i64 0,.int .i64 0,.string ⟨#[]⟩,.string ⟨#[]⟩,.int .i64 0,.slice none 0 0,.string ⟨#[]⟩,.int .i64 0] 24)
      go_simp
      (try rw [hw])
      (try rw [hc])
      replace hbX:=hbX.trans (hb.mono hbX.size)
      clear hb hw hc
      refine hK.out _ _ ?_ (fun hHeld=>?_)
      ·exact (HF2.out _ hbX).1
      clear hK K
      (try simp only [Act.put,pA,pB,pC])
      refine wpAnyH_ready (rs:=[1]) (by kernel_rfl) (by simp) ?_
      refine (readyR rfl (fun K hK=>?_) AllReadyH.nil)
      go_simp
      refine (HRf.out _).mono ?_
      rintro e y1 ⟨rfl,hb⟩
      replace hZ1:=(hb.block _ (Array.getElem?_eq_some_iff.1 hZ1).1).trans hZ1
      replace hbX:=hbX.trans (hb.mono hbX.size)
      clear hb
      go_wp2_with fail
      refine hK.out _ _ ?_ (fun hHeld=>?_)
      ·exact (HF2.out _ hbX).1
      clear hK K
      (try simp only [Act.put,pA,pB,pC])
      refine wpAnyH_ready (rs:=[3]) (by kernel_rfl) (by simp) ?_
      refine (readyR rfl (fun K hK=>?_) AllReadyH.nil)
      go_simp
      refine (HGt.out _ hbX).mono ?_
      rintro e y2 ⟨F,u,rfl,hb,hN0⟩
      have hnF:=hN0.old hZ1
      have hN:=hN0.low hbX.size
      have hone:=in_one hN.items
      replace hZ1:=(hb.block _ (Array.getElem?_eq_some_iff.1 hZ1).1).trans hZ1
      replace hbX:=hbX.trans (hb.mono hbX.size)
      clear hb hN0
      go_wp2_with fail
      refine hK.out _ _ ?_ (fun hHeld=>?_)
      ·exact (HF2.out _ hbX).1
      clear hK K
      (try simp only [Act.put,pA,pB,pC])
      refine run_in [4,5,6,7] ?_
      iterate 4 (refine run_e rfl (by kernel_rfl) (by rfl) (fun _ _ _ _ h=>h) (by assumption) ?_;apply Exists.intro;refine And.intro (fun w hSw=>?_) ?_;(focus (try dsimp only at hSw);go_simp;(try with_reducible rfl));(try simp only [Act.put,pA,pB,pC]))
      refine run_out ?_
      refine wpAnyH_ready (rs:=[9]) (by kernel_rfl) (by simp) ?_
      refine (readyR rfl (fun K hK=>?_) AllReadyH.nil)
      have hoS:(#[.int .i64 vk,.int .i64 vi,.int .i64 vg,.string vn,.string vf,.int .i64 va,u,.string vb,.int .i64 vz]:Array Value).all (·.oneCell') = true:=all_oneCell_toArray (nineL_one (f:=⟨vk,vi,vg,vn,vf,va,vb,vz⟩) (u:=u) hone)
      obtain ⟨xs,hw,hT,hbN,hZN,hoth⟩:=nset hbX hlo1 #[.int .i64 vk,.int .i64 vi,.int .i64 vg,.string vn,.string vf,.int .i64 va,u,.string vb,.int .i64 vz] hZ1
      refine step_store_run (by rfl) 24 (.tmp 31) (.tmp 226) rfl (p:=⟨_,0,none⟩) rfl rfl (run_storeVar_row _ _ 24 24 _ #[.int .i64 vk,.int .i64 vi,.int .i64 vg,.string vn,.string vf,.int .i64 va,u,.string vb,.int .i64 vz] hZ1 hsz9 rfl hoS) ?_
      (try rw [hw])
      replace hN:=hN.touchS hT (fun g (e:g = c1)=>by rw [e];exact hnF)
      clear hbX hZ1 hw hT hoth
      have hbX:=hbN
      have hZ1:=hZN
      clear hbN hZN
      refine hK.out _ _ ?_ (fun hHeld=>?_)
      ·exact (HF2.out _ hbX).1
      clear hK K
      (try simp only [Act.put,pA,pB,pC])
      refine run_in [10,11] ?_
      iterate 2 (refine run_e rfl (by kernel_rfl) (by rfl) (fun _ _ _ _ h=>h) (by assumption) ?_;apply Exists.intro;refine And.intro (fun w hSw=>?_) ?_;(focus (try dsimp only at hSw);go_simp;(try with_reducible rfl));(try simp only [Act.put,pA,pB,pC]))
      refine run_out ?_
      refine wpAnyH_done (by kernel_rfl) ?_ _
      go_wp2_with fail
      go_meet
      exact ⟨_,F,u,rfl,rfl,rfl,hbX,hN,hZ1,hnF,hlo1⟩
    case rest =>
    clear hbX
    obtain ⟨c,F,u,rfl,rfl,rfl,hbX,hN,hZ1,hnF,hlo1⟩:=hcut
    have HL:=Lib.hid (row_rng (x:=[.int .i64 vk,.int .i64 vi,.int .i64 vg,.string vn,.string vf,.int .i64 va,u,.string vb,.int .i64 vz]) hZ1)
    go_wp2_with (first
     | (refine wpList_load_mid rfl 24 (.tmp 31) rfl c 0 rfl [.int .i64 vk,.int .i64 vi,.int .i64 vg,.string vn,.string vf,.int .i64 va,u,.string vb,.int .i64 vz] _ HL.out Tryz.underlying24 rfl hsz9 ?_))
    clear HL
    refine (HSpv.out wg _ F u hN h0g hbX).mono ?_
    rintro e x1 ⟨rfl,hb,hT⟩
    replace hZ1:=(hT.block _ (Array.getElem?_eq_some_iff.1 hZ1).1 hnF).trans hZ1
    clear hbX hT hN hnF HSpv
    have hbX:=hb
    clear hb
    go_wp2_with fail
    refine (HRf.out _).mono ?_
    rintro e x2 ⟨rfl,hb⟩
    replace hZ1:=(hb.block _ (Array.getElem?_eq_some_iff.1 hZ1).1).trans hZ1
    replace hbX:=hbX.trans (hb.mono hbX.size)
    clear hb
    go_wp2_with fail
    refine (HFt.out _ hbX).mono ?_
    rintro e x3 ⟨F1,F2,u1,u2,rfl,hb,hN1,hN2⟩
    have hoK:(#[.int .i64 kk,.int .i64 ki,.int .i64 kg,.string kn,.string kf,.int .i64 ka,u1,.string kb,.int .i64 kz]:Array Value).all (·.oneCell') = true:=all_oneCell_toArray (nineL_one (f:=⟨kk,ki,kg,kn,kf,ka,kb,kz⟩) (u:=u1) (in_one hN1.items))
    have hoV:(#[.int .i64 vk,.int .i64 vi,.int .i64 vg,.string vn,.string vf,.int .i64 va,u2,.string vb,.int .i64 vz]:Array Value).all (·.oneCell') = true:=all_oneCell_toArray (nineL_one (f:=⟨vk,vi,vg,vn,vf,va,vb,vz⟩) (u:=u2) (in_one hN2.items))
    have hnc:¬ (F1 c∨F2 c):=fun e=>by rcases e with e | e;exact hN1.old hZ1 e;exact hN2.old hZ1 e
    obtain ⟨hT2,hP1⟩:=TwoN.of (wg:=wg) hN1 hN2 hbX.size h0g (hbX.trans (hb.mono hbX.size))
    replace hZ1:=(hb.block _ (Array.getElem?_eq_some_iff.1 hZ1).1).trans hZ1
    generalize hGe:(fun g=>F1 g∨F2 g) = G at hT2 hP1
    replace hnc:¬ G c:=by rw [← hGe];exact hnc
    clear hGe hN1 hN2 hb hbX
    have hld1:=hT2.hb.size
    have hld2:wg.heap.size ≤ x3.heap.size + 1:=Nat.le_succ_of_le hld1
    have hnd1:¬ G x3.heap.size:=fun e=>by have:=(hT2.lo _ e).2;omega
    have hnd2:¬ G (x3.heap.size + 1):=fun e=>by have:=(hT2.lo _ e).2;omega
    have hcl:=(Array.getElem?_eq_some_iff.1 hZ1).1
    obtain ⟨hb2,hza,hzb⟩:=two_boxes x3 (.cells #[.int .i64 0,.int .i64 0,.int .i64 0,.string ⟨#[]⟩,.string ⟨#[]⟩,.int .i64 0,.slice none 0 0,.string ⟨#[]⟩,.int .i64 0] 24) (.cells #[.int .i64 0,.int .i64 0,.int .i64 0,.string ⟨#[]⟩,.string ⟨#[]⟩,.int .i64 0,.slice none 0 0,.string ⟨#[]⟩,.int .i64 0] 24)
    have hbs:=set_box (set_box hb2 (Nat.le_refl _) #[.int .i64 kk,.int .i64 ki,.int .i64 kg,.string kn,.string kf,.int .i64 ka,u1,.string kb,.int .i64 kz]) (Nat.le_succ _) #[.int .i64 vk,.int .i64 vi,.int .i64 vg,.string vn,.string vf,.int .i64 va,u2,.string vb,.int .i64 vz]
    have HZa:=Lib.hid hza
    have hzb1:=(setRow_other _ x3.heap.size (x3.heap.size + 1) #[.int .i64 kk,.int .i64 ki,.int .i64 kg,.string kn,.string kf,.int .i64 ka,u1,.string kb,.int .i64 kz] (by omega)).trans hzb
    have HZb:=Lib.hid hzb1
    have hZa:=(setRow_other _ (x3.heap.size + 1) x3.heap.size #[.int .i64 vk,.int .i64 vi,.int .i64 vg,.string vn,.string vf,.int .i64 va,u2,.string vb,.int .i64 vz] (by omega)).trans (setRow_heap _ _ _ #[.int .i64 kk,.int .i64 ki,.int .i64 kg,.string kn,.string kf,.int .i64 ka,u1,.string kb,.int .i64 kz] _ _ hza)
    have hZb:=setRow_heap _ _ _ #[.int .i64 vk,.int .i64 vi,.int .i64 vg,.string vn,.string vf,.int .i64 va,u2,.string vb,.int .i64 vz] _ _ hzb1
    replace hZ1:=(hbs.block _ hcl).trans hZ1
    replace hP1:=hP1.mono (fun g hg=>hbs.block g (hT2.lo g hg).2) (fun _ e=>e)
    replace hT2:=hT2.below hbs
    clear hb2 hza hzb hzb1 hbs
    go_upto_region 32 with (first
     | (refine wpList_store_row rfl 24 (.tmp 34) (.tmp 235) rfl x3.heap.size #[.int .i64 kk,.int .i64 ki,.int .i64 kg,.string kn,.string kf,.int .i64 ka,u1,.string kb,.int .i64 kz] rfl rfl 24 _ HZa.out hsz9 rfl hoK ?_)
     | (refine wpList_store_row rfl 24 (.tmp 35) (.tmp 236) rfl (x3.heap.size + 1) #[.int .i64 vk,.int .i64 vi,.int .i64 vg,.string vn,.string vf,.int .i64 va,u2,.string vb,.int .i64 vz] rfl rfl 24 _ HZb.out hsz9 rfl hoV ?_))
    clear HZa HZb hoK hoV
    generalize ((((x3.alloc (.cells #[.int .i64 0,.int .i64 0,.int .i64 0,.string ⟨#[]⟩,.string ⟨#[]⟩,.int .i64 0,.slice none 0 0,.string ⟨#[]⟩,.int .i64 0] 24)).alloc (.cells #[.int .i64 0,.int .i64 0,.int .i64 0,.string ⟨#[]⟩,.string ⟨#[]⟩,.int .i64 0,.slice none 0 0,.string ⟨#[]⟩,.int .i64 0] 24)).setRow x3.heap.size #[.int .i64 kk,.int .i64 ki,.int .i64 kg,.string kn,.string kf,.int .i64 ka,u1,.string kb,.int .i64 kz]).setRow (x3.heap.size + 1) #[.int .i64 vk,.int .i64 vi,.int .i64 vg,.string vn,.string vf,.int .i64 va,u2,.string vb,.int .i64 vz]) = x4 at *
    have hcd1:c ≠ x3.heap.size:=by omega
    have hcd2:c ≠ x3.heap.size + 1:=by omega
    have hdd:x3.heap.size ≠ x3.heap.size + 1:=by omega
    generalize x3.heap.size + 1 = d2 at *
    generalize x3.heap.size = d1 at *
    have HL:=Lib.hid (row_rng (x:=[.int .i64 kk,.int .i64 ki,.int .i64 kg,.string kn,.string kf,.int .i64 ka,u1,.string kb,.int .i64 kz]) hZa)
    go_wp2_with (first
     | (refine wpList_load_mid rfl 24 (.tmp 34) rfl d1 0 rfl [.int .i64 kk,.int .i64 ki,.int .i64 kg,.string kn,.string kf,.int .i64 ka,u1,.string kb,.int .i64 kz] _ HL.out Tryz.underlying24 rfl hsz9 ?_))
    clear HL
    refine (HSp1.out _ _ _ _ _ hT2 hP1).mono ?_
    rintro e x5 ⟨rfl,hT3,hT⟩
    replace hZ1:=(hT.block _ (Array.getElem?_eq_some_iff.1 hZ1).1 hnc).trans hZ1
    replace hZa:=(hT.block _ (Array.getElem?_eq_some_iff.1 hZa).1 hnd1).trans hZa
    replace hZb:=(hT.block _ (Array.getElem?_eq_some_iff.1 hZb).1 hnd2).trans hZb
    clear hT hT2 hP1 HSp1
    have HL:=Lib.hid (row_rng (x:=[.int .i64 vk,.int .i64 vi,.int .i64 vg,.string vn,.string vf,.int .i64 va,u2,.string vb,.int .i64 vz]) hZb)
    go_wp2_with (first
     | (refine wpList_load_mid rfl 24 (.tmp 35) rfl d2 0 rfl [.int .i64 vk,.int .i64 vi,.int .i64 vg,.string vn,.string vf,.int .i64 va,u2,.string vb,.int .i64 vz] _ HL.out Tryz.underlying24 rfl hsz9 ?_))
    clear HL
    refine (HSp2.out _ _ _ _ hT3).mono ?_
    rintro e x6 ⟨rfl,hT4,hT⟩
    replace hZ1:=(hT.block _ (Array.getElem?_eq_some_iff.1 hZ1).1 hnc).trans hZ1
    replace hZa:=(hT.block _ (Array.getElem?_eq_some_iff.1 hZa).1 hnd1).trans hZa
    replace hZb:=(hT.block _ (Array.getElem?_eq_some_iff.1 hZb).1 hnd2).trans hZb
    have hbX:=hT4.hb
    clear hT hT3 hT4 HSp2 hnc hnd1 hnd2 hcl
    go_upto_region 34 with (fail)
    have hb:=belowD (Below.refl x6.heap.size x6)
    replace hZ1:=(hb.block _ (Array.getElem?_eq_some_iff.1 hZ1).1).trans hZ1
    replace hZa:=(hb.block _ (Array.getElem?_eq_some_iff.1 hZa).1).trans hZa
    replace hZb:=(hb.block _ (Array.getElem?_eq_some_iff.1 hZb).1).trans hZb
    replace hbX:=hbX.trans (hb.mono hbX.size)
    clear hb
    refine wp_region_held_drew (S:=(fun w'=>w'.rangeAt b1 0 [.int .i64 kk,.int .i64 ki,.int .i64 kg,.string kn,.string kf,.int .i64 ka,.slice pk nk ck,.string kb,.int .i64 kz])) (by kernel_rfl) ?_ (fun hHeld=>?_)
    ·exact (HF2.out _ hbX).1
    generalize x6.drew = wd at *
    refine run_in [0,2] ?_
    (refine run_e rfl (by kernel_rfl) (by rfl) (fun _ _ _ _ h=>h) (by assumption) ?_;apply Exists.intro;refine And.intro (fun w hSw=>?_) ?_;(focus (try dsimp only at hSw);go_simp;(try with_reducible rfl));(try simp only [Act.put,pA,pB,pC]))
    refine run_r rfl (by kernel_rfl) (fun _ _ _ _ h=>h) (by assumption) (yieldsIf_load_mid (by rfl) 24 (.tmp 3) rfl b1 0 rfl [.int .i64 kk,.int .i64 ki,.int .i64 kg,.string kn,.string kf,.int .i64 ka,.slice pk nk ck,.string kb,.int .i64 kz] _ (fun w hs=>hs) Tryz.underlying24 rfl hsz9) ?_
    (try simp only [Act.put,pA,pB,pC])
    refine run_out ?_
    refine wpAnyH_ready (rs:=[1]) (by kernel_rfl) (by simp) ?_
    refine (readyR rfl (fun K hK=>?_) AllReadyH.nil)
    go_simp
    refine (HRf.out _).mono ?_
    rintro e y1 ⟨rfl,hb⟩
    replace hZ1:=(hb.block _ (Array.getElem?_eq_some_iff.1 hZ1).1).trans hZ1
    replace hZa:=(hb.block _ (Array.getElem?_eq_some_iff.1 hZa).1).trans hZa
    replace hZb:=(hb.block _ (Array.getElem?_eq_some_iff.1 hZb).1).trans hZb
    replace hbX:=hbX.trans (hb.mono hbX.size)
    clear hb
    go_wp2_with fail
    refine hK.out _ _ ?_ (fun hHeld=>?_)
    ·exact (HF2.out _ hbX).1
    clear hK K
    (try simp only [Act.put,pA,pB,pC])
    refine wpAnyH_ready (rs:=[3]) (by kernel_rfl) (by simp) ?_
    refine (readyR rfl (fun K hK=>?_) AllReadyH.nil)
    go_simp
    refine (HGt.out _ hbX).mono ?_
    rintro e y2 ⟨F3,u3,rfl,hb,hN⟩
    have hoS:(#[.int .i64 vk,.int .i64 vi,.int .i64 vg,.string vn,.string vf,.int .i64 va,u3,.string vb,.int .i64 vz]:Array Value).all (·.oneCell') = true:=all_oneCell_toArray (nineL_one (f:=⟨vk,vi,vg,vn,vf,va,vb,vz⟩) (u:=u3) (in_one hN.items))
    have hn1:=hN.old hZ1
    have hna:=hN.old hZa
    have hnb:=hN.old hZb
    replace hZ1:=(hb.block _ (Array.getElem?_eq_some_iff.1 hZ1).1).trans hZ1
    replace hZa:=(hb.block _ (Array.getElem?_eq_some_iff.1 hZa).1).trans hZa
    replace hZb:=(hb.block _ (Array.getElem?_eq_some_iff.1 hZb).1).trans hZb
    replace hN:=hN.low hbX.size
    replace hbX:=hbX.trans (hb.mono hbX.size)
    clear hb
    go_wp2_with fail
    refine hK.out _ _ ?_ (fun hHeld=>?_)
    ·exact (HF2.out _ hbX).1
    clear hK K
    (try simp only [Act.put,pA,pB,pC])
    refine run_in [4,5,6,7] ?_
    iterate 4 (refine run_e rfl (by kernel_rfl) (by rfl) (fun _ _ _ _ h=>h) (by assumption) ?_;apply Exists.intro;refine And.intro (fun w hSw=>?_) ?_;(focus (try dsimp only at hSw);go_simp;(try with_reducible rfl));(try simp only [Act.put,pA,pB,pC]))
    refine run_out ?_
    refine wpAnyH_ready (rs:=[8]) (by kernel_rfl) (by simp) ?_
    refine (readyR rfl (fun K hK=>?_) AllReadyH.nil)
    obtain ⟨xs,hw,hT,hbN,hZN,hoth⟩:=nset hbX hlo1 #[.int .i64 vk,.int .i64 vi,.int .i64 vg,.string vn,.string vf,.int .i64 va,u3,.string vb,.int .i64 vz] hZ1
    refine step_store_run (by rfl) 24 (.tmp 31) (.tmp 248) rfl (p:=⟨_,0,none⟩) rfl rfl (run_storeVar_row _ _ 24 24 _ #[.int .i64 vk,.int .i64 vi,.int .i64 vg,.string vn,.string vf,.int .i64 va,u3,.string vb,.int .i64 vz] hZ1 hsz9 rfl hoS) ?_
    (try rw [hw])
    replace hZa:=(hoth _ (Ne.symm hcd1)).trans hZa
    replace hZb:=(hoth _ (Ne.symm hcd2)).trans hZb
    replace hN:=hN.touchS hT (fun g (e:g = c)=>by rw [e];exact hn1)
    clear hbX hZ1 hw hT hoth
    have hbX:=hbN
    have hZ1:=hZN
    clear hbN hZN
    clear hoS
    refine hK.out _ _ ?_ (fun hHeld=>?_)
    ·exact (HF2.out _ hbX).1
    clear hK K
    (try simp only [Act.put,pA,pB,pC])
    refine run_in [9,10] ?_
    iterate 2 (refine run_e rfl (by kernel_rfl) (by rfl) (fun _ _ _ _ h=>h) (by assumption) ?_;apply Exists.intro;refine And.intro (fun w hSw=>?_) ?_;(focus (try dsimp only at hSw);go_simp;(try with_reducible rfl));(try simp only [Act.put,pA,pB,pC]))
    refine run_out ?_
    refine wpAnyH_done (by kernel_rfl) ?_ _
    go_wp2_with fail
    refine (HRf.out _).mono ?_
    rintro e z1 ⟨rfl,hb⟩
    replace hN:=hN.below hb
    replace hZ1:=(hb.block _ (Array.getElem?_eq_some_iff.1 hZ1).1).trans hZ1
    replace hZa:=(hb.block _ (Array.getElem?_eq_some_iff.1 hZa).1).trans hZa
    replace hZb:=(hb.block _ (Array.getElem?_eq_some_iff.1 hZb).1).trans hZb
    replace hbX:=hbX.trans (hb.mono hbX.size)
    clear hb
    go_wp2_with fail
    refine (HFt.out _ hbX).mono ?_
    rintro e z2 ⟨F4,F5,u4,u5,rfl,hb,hM1,hM2⟩
    have hoK:(#[.int .i64 kk,.int .i64 ki,.int .i64 kg,.string kn,.string kf,.int .i64 ka,u4,.string kb,.int .i64 kz]:Array Value).all (·.oneCell') = true:=all_oneCell_toArray (nineL_one (f:=⟨kk,ki,kg,kn,kf,ka,kb,kz⟩) (u:=u4) (in_one hM1.items))
    have hoV:(#[.int .i64 vk,.int .i64 vi,.int .i64 vg,.string vn,.string vf,.int .i64 va,u5,.string vb,.int .i64 vz]:Array Value).all (·.oneCell') = true:=all_oneCell_toArray (nineL_one (f:=⟨vk,vi,vg,vn,vf,va,vb,vz⟩) (u:=u5) (in_one hM2.items))
    have m1a:=hM1.old hZa
    have m1b:=hM1.old hZb
    have m2a:=hM2.old hZa
    have m2b:=hM2.old hZb
    replace hN:=hN.below hb
    replace hZ1:=(hb.block _ (Array.getElem?_eq_some_iff.1 hZ1).1).trans hZ1
    replace hZa:=(hb.block _ (Array.getElem?_eq_some_iff.1 hZa).1).trans hZa
    replace hZb:=(hb.block _ (Array.getElem?_eq_some_iff.1 hZb).1).trans hZb
    replace hbX:=hbX.trans (hb.mono hbX.size)
    clear hb
    have HZa:=Lib.hid hZa
    have HZb:=Lib.hid ((setRow_other z2 d1 d2 #[.int .i64 kk,.int .i64 ki,.int .i64 kg,.string kn,.string kf,.int .i64 ka,u4,.string kb,.int .i64 kz] (Ne.symm hdd)).trans hZb)
    go_upto_region 36 with (first
     | (refine wpList_store_row rfl 24 (.tmp 34) (.tmp 255) rfl d1 #[.int .i64 kk,.int .i64 ki,.int .i64 kg,.string kn,.string kf,.int .i64 ka,u4,.string kb,.int .i64 kz] rfl rfl 24 _ HZa.out hsz9 rfl hoK ?_)
     | (refine wpList_store_row rfl 24 (.tmp 35) (.tmp 256) rfl d2 #[.int .i64 vk,.int .i64 vi,.int .i64 vg,.string vn,.string vf,.int .i64 va,u5,.string vb,.int .i64 vz] rfl rfl 24 _ HZb.out hsz9 rfl hoV ?_))
    have t1:=touch_setRow z2 d1 #[.int .i64 kk,.int .i64 ki,.int .i64 kg,.string kn,.string kf,.int .i64 ka,u4,.string kb,.int .i64 kz]
    have t2:=touch_setRow (z2.setRow d1 #[.int .i64 kk,.int .i64 ki,.int .i64 kg,.string kn,.string kf,.int .i64 ka,u4,.string kb,.int .i64 kz]) d2 #[.int .i64 vk,.int .i64 vi,.int .i64 vg,.string vn,.string vf,.int .i64 va,u5,.string vb,.int .i64 vz]
    replace hN:=(hN.touchS t1 (fun g e=>by subst e;exact hna)).touchS t2 (fun g e=>by subst e;exact hnb)
    replace hM1:=(hM1.touchS t1 (fun g e=>by subst e;exact m1a)).touchS t2 (fun g e=>by subst e;exact m1b)
    replace hM2:=(hM2.touchS t1 (fun g e=>by subst e;exact m2a)).touchS t2 (fun g e=>by subst e;exact m2b)
    replace hZ1:=(setRow_other _ d2 c #[.int .i64 vk,.int .i64 vi,.int .i64 vg,.string vn,.string vf,.int .i64 va,u5,.string vb,.int .i64 vz] hcd2).trans ((setRow_other _ d1 c #[.int .i64 kk,.int .i64 ki,.int .i64 kg,.string kn,.string kf,.int .i64 ka,u4,.string kb,.int .i64 kz] hcd1).trans hZ1)
    replace hZa:=(setRow_other _ d2 d1 #[.int .i64 vk,.int .i64 vi,.int .i64 vg,.string vn,.string vf,.int .i64 va,u5,.string vb,.int .i64 vz] hdd).trans (setRow_heap _ _ _ #[.int .i64 kk,.int .i64 ki,.int .i64 kg,.string kn,.string kf,.int .i64 ka,u4,.string kb,.int .i64 kz] _ _ hZa)
    replace hZb:=setRow_heap _ _ _ #[.int .i64 vk,.int .i64 vi,.int .i64 vg,.string vn,.string vf,.int .i64 va,u5,.string vb,.int .i64 vz] _ _ HZb.out
    replace hbX:=set_box (set_box hbX hld1 #[.int .i64 kk,.int .i64 ki,.int .i64 kg,.string kn,.string kf,.int .i64 ka,u4,.string kb,.int .i64 kz]) hld2 #[.int .i64 vk,.int .i64 vi,.int .i64 vg,.string vn,.string vf,.int .i64 va,u5,.string vb,.int .i64 vz]
    clear HZa HZb t1 t2 hoK hoV m1a m1b m2a m2b hna hnb hn1
    generalize ((z2.setRow d1 #[.int .i64 kk,.int .i64 ki,.int .i64 kg,.string kn,.string kf,.int .i64 ka,u4,.string kb,.int .i64 kz]).setRow d2 #[.int .i64 vk,.int .i64 vi,.int .i64 vg,.string vn,.string vf,.int .i64 va,u5,.string vb,.int .i64 vz]) = z3 at *
    have x0:=(row_rng (x:=[.int .i64 vk,.int .i64 vi,.int .i64 vg,.string vn,.string vf,.int .i64 va,u3,.string vb,.int .i64 vz]) hZ1) 0 _ rfl
    have x1:=(row_rng (x:=[.int .i64 vk,.int .i64 vi,.int .i64 vg,.string vn,.string vf,.int .i64 va,u3,.string vb,.int .i64 vz]) hZ1) 1 _ rfl
    have x2:=(row_rng (x:=[.int .i64 vk,.int .i64 vi,.int .i64 vg,.string vn,.string vf,.int .i64 va,u3,.string vb,.int .i64 vz]) hZ1) 2 _ rfl
    have x3:=(row_rng (x:=[.int .i64 vk,.int .i64 vi,.int .i64 vg,.string vn,.string vf,.int .i64 va,u3,.string vb,.int .i64 vz]) hZ1) 3 _ rfl
    have x4:=(row_rng (x:=[.int .i64 vk,.int .i64 vi,.int .i64 vg,.string vn,.string vf,.int .i64 va,u3,.string vb,.int .i64 vz]) hZ1) 4 _ rfl
    have x5:=(row_rng (x:=[.int .i64 vk,.int .i64 vi,.int .i64 vg,.string vn,.string vf,.int .i64 va,u3,.string vb,.int .i64 vz]) hZ1) 5 _ rfl
    have x6:=(row_rng (x:=[.int .i64 vk,.int .i64 vi,.int .i64 vg,.string vn,.string vf,.int .i64 va,u3,.string vb,.int .i64 vz]) hZ1) 6 _ rfl
    have x7:=(row_rng (x:=[.int .i64 vk,.int .i64 vi,.int .i64 vg,.string vn,.string vf,.int .i64 va,u3,.string vb,.int .i64 vz]) hZ1) 7 _ rfl
    have x8:=(row_rng (x:=[.int .i64 vk,.int .i64 vi,.int .i64 vg,.string vn,.string vf,.int .i64 va,u3,.string vb,.int .i64 vz]) hZ1) 8 _ rfl
    simp only [Nat.reduceAdd] at x0 x1 x2 x3 x4 x5 x6 x7 x8
    have y0:=(HF2.out _ hbX).2 0 _ rfl
    have y1:=(HF2.out _ hbX).2 1 _ rfl
    have y2:=(HF2.out _ hbX).2 2 _ rfl
    have y3:=(HF2.out _ hbX).2 3 _ rfl
    have y4:=(HF2.out _ hbX).2 4 _ rfl
    have y5:=(HF2.out _ hbX).2 5 _ rfl
    have y6:=(HF2.out _ hbX).2 6 _ rfl
    have y7:=(HF2.out _ hbX).2 7 _ rfl
    have y8:=(HF2.out _ hbX).2 8 _ rfl
    simp only [Nat.reduceAdd] at y0 y1 y2 y3 y4 y5 y6 y7 y8
    go_wp2_with fail
    refine (HSvv.out _ (HEd.out _ hbX) u3 hN.at_).mono ?_
    rintro e q1 ⟨rfl,hb⟩
    clear x0 x1 x2 x3 x4 x5 x6 x7 x8 y0 y1 y2 y3 y4 y5 y6 y7 y8
    replace hN:=hN.below hb
    replace hM1:=hM1.below hb
    replace hM2:=hM2.below hb
    replace hZ1:=(hb.block _ (Array.getElem?_eq_some_iff.1 hZ1).1).trans hZ1
    replace hZa:=(hb.block _ (Array.getElem?_eq_some_iff.1 hZa).1).trans hZa
    replace hZb:=(hb.block _ (Array.getElem?_eq_some_iff.1 hZb).1).trans hZb
    replace hbX:=hbX.trans (hb.mono hbX.size)
    clear hb
    have x0:=(row_rng (x:=[.int .i64 vk,.int .i64 vi,.int .i64 vg,.string vn,.string vf,.int .i64 va,u5,.string vb,.int .i64 vz]) hZb) 0 _ rfl
    have x1:=(row_rng (x:=[.int .i64 vk,.int .i64 vi,.int .i64 vg,.string vn,.string vf,.int .i64 va,u5,.string vb,.int .i64 vz]) hZb) 1 _ rfl
    have x2:=(row_rng (x:=[.int .i64 vk,.int .i64 vi,.int .i64 vg,.string vn,.string vf,.int .i64 va,u5,.string vb,.int .i64 vz]) hZb) 2 _ rfl
    have x3:=(row_rng (x:=[.int .i64 vk,.int .i64 vi,.int .i64 vg,.string vn,.string vf,.int .i64 va,u5,.string vb,.int .i64 vz]) hZb) 3 _ rfl
    have x4:=(row_rng (x:=[.int .i64 vk,.int .i64 vi,.int .i64 vg,.string vn,.string vf,.int .i64 va,u5,.string vb,.int .i64 vz]) hZb) 4 _ rfl
    have x5:=(row_rng (x:=[.int .i64 vk,.int .i64 vi,.int .i64 vg,.string vn,.string vf,.int .i64 va,u5,.string vb,.int .i64 vz]) hZb) 5 _ rfl
    have x6:=(row_rng (x:=[.int .i64 vk,.int .i64 vi,.int .i64 vg,.string vn,.string vf,.int .i64 va,u5,.string vb,.int .i64 vz]) hZb) 6 _ rfl
    have x7:=(row_rng (x:=[.int .i64 vk,.int .i64 vi,.int .i64 vg,.string vn,.string vf,.int .i64 va,u5,.string vb,.int .i64 vz]) hZb) 7 _ rfl
    have x8:=(row_rng (x:=[.int .i64 vk,.int .i64 vi,.int .i64 vg,.string vn,.string vf,.int .i64 va,u5,.string vb,.int .i64 vz]) hZb) 8 _ rfl
    simp only [Nat.reduceAdd] at x0 x1 x2 x3 x4 x5 x6 x7 x8
    have y0:=(HF2.out _ hbX).2 0 _ rfl
    have y1:=(HF2.out _ hbX).2 1 _ rfl
    have y2:=(HF2.out _ hbX).2 2 _ rfl
    have y3:=(HF2.out _ hbX).2 3 _ rfl
    have y4:=(HF2.out _ hbX).2 4 _ rfl
    have y5:=(HF2.out _ hbX).2 5 _ rfl
    have y6:=(HF2.out _ hbX).2 6 _ rfl
    have y7:=(HF2.out _ hbX).2 7 _ rfl
    have y8:=(HF2.out _ hbX).2 8 _ rfl
    simp only [Nat.reduceAdd] at y0 y1 y2 y3 y4 y5 y6 y7 y8
    go_wp2_with fail
    refine (HSvv.out _ (HEd.out _ hbX) u5 hM2.at_).mono ?_
    rintro e q2 ⟨rfl,hb⟩
    clear x0 x1 x2 x3 x4 x5 x6 x7 x8 y0 y1 y2 y3 y4 y5 y6 y7 y8
    replace hN:=hN.below hb
    replace hM1:=hM1.below hb
    replace hM2:=hM2.below hb
    replace hZ1:=(hb.block _ (Array.getElem?_eq_some_iff.1 hZ1).1).trans hZ1
    replace hZa:=(hb.block _ (Array.getElem?_eq_some_iff.1 hZa).1).trans hZa
    replace hZb:=(hb.block _ (Array.getElem?_eq_some_iff.1 hZb).1).trans hZb
    replace hbX:=hbX.trans (hb.mono hbX.size)
    clear hb
    have x0:=(row_rng (x:=[.int .i64 kk,.int .i64 ki,.int .i64 kg,.string kn,.string kf,.int .i64 ka,u4,.string kb,.int .i64 kz]) hZa) 0 _ rfl
    have x1:=(row_rng (x:=[.int .i64 kk,.int .i64 ki,.int .i64 kg,.string kn,.string kf,.int .i64 ka,u4,.string kb,.int .i64 kz]) hZa) 1 _ rfl
    have x2:=(row_rng (x:=[.int .i64 kk,.int .i64 ki,.int .i64 kg,.string kn,.string kf,.int .i64 ka,u4,.string kb,.int .i64 kz]) hZa) 2 _ rfl
    have x3:=(row_rng (x:=[.int .i64 kk,.int .i64 ki,.int .i64 kg,.string kn,.string kf,.int .i64 ka,u4,.string kb,.int .i64 kz]) hZa) 3 _ rfl
    have x4:=(row_rng (x:=[.int .i64 kk,.int .i64 ki,.int .i64 kg,.string kn,.string kf,.int .i64 ka,u4,.string kb,.int .i64 kz]) hZa) 4 _ rfl
    have x5:=(row_rng (x:=[.int .i64 kk,.int .i64 ki,.int .i64 kg,.string kn,.string kf,.int .i64 ka,u4,.string kb,.int .i64 kz]) hZa) 5 _ rfl
    have x6:=(row_rng (x:=[.int .i64 kk,.int .i64 ki,.int .i64 kg,.string kn,.string kf,.int .i64 ka,u4,.string kb,.int .i64 kz]) hZa) 6 _ rfl
    have x7:=(row_rng (x:=[.int .i64 kk,.int .i64 ki,.int .i64 kg,.string kn,.string kf,.int .i64 ka,u4,.string kb,.int .i64 kz]) hZa) 7 _ rfl
    have x8:=(row_rng (x:=[.int .i64 kk,.int .i64 ki,.int .i64 kg,.string kn,.string kf,.int .i64 ka,u4,.string kb,.int .i64 kz]) hZa) 8 _ rfl
    simp only [Nat.reduceAdd] at x0 x1 x2 x3 x4 x5 x6 x7 x8
    have y0:=(HF2.out _ hbX).1 0 _ rfl
    have y1:=(HF2.out _ hbX).1 1 _ rfl
    have y2:=(HF2.out _ hbX).1 2 _ rfl
    have y3:=(HF2.out _ hbX).1 3 _ rfl
    have y4:=(HF2.out _ hbX).1 4 _ rfl
    have y5:=(HF2.out _ hbX).1 5 _ rfl
    have y6:=(HF2.out _ hbX).1 6 _ rfl
    have y7:=(HF2.out _ hbX).1 7 _ rfl
    have y8:=(HF2.out _ hbX).1 8 _ rfl
    simp only [Nat.reduceAdd] at y0 y1 y2 y3 y4 y5 y6 y7 y8
    go_wp2_with fail
    refine (HSkk.out _ (HEd.out _ hbX) u4 hM1.at_).mono ?_
    rintro e q3 ⟨rfl,hb⟩
    clear x0 x1 x2 x3 x4 x5 x6 x7 x8 y0 y1 y2 y3 y4 y5 y6 y7 y8
    replace hN:=hN.below hb
    replace hM1:=hM1.below hb
    replace hM2:=hM2.below hb
    replace hZ1:=(hb.block _ (Array.getElem?_eq_some_iff.1 hZ1).1).trans hZ1
    replace hZa:=(hb.block _ (Array.getElem?_eq_some_iff.1 hZa).1).trans hZa
    replace hZb:=(hb.block _ (Array.getElem?_eq_some_iff.1 hZb).1).trans hZb
    replace hbX:=hbX.trans (hb.mono hbX.size)
    clear hb
    go_wp2_with fail
    go_ret
    exact ⟨rfl,HEd.out _ hbX⟩
theorem lawKeepsR {n1 n2:Nat} (w:World) (k:Tm (n1 + 1)) (v:Tm (n2 + 1)) (uk uv:Value) (hs:Bool) (hI:ItemsAt w w.heap.size n1 uk k.items) (hJ:ItemsAt w w.heap.size n2 uv v.items):Calls Tryz.prog 8 #[aggV k.f uk,aggV v.f uv,.bool hs] w (BPost true w):=by
 obtain ⟨l1,J1⟩:=hI.to (m:=n1 + n2) (by omega)
 obtain ⟨l2,J2⟩:=hJ.to (m:=n1 + n2) (by omega)
 exact lawKeeps w (Tm.mk k.f l1) (Tm.mk v.f l2) uk uv hs J1 J2
end Go.Proofs.YtfbggmbmgohiiaaGreat.tb
