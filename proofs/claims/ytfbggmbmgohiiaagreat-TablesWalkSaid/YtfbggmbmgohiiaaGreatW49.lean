/- Texts of this seat, one behind the other: TeD, TeE, TeF, TeG, TeH, TeL. No condition beyond theirs. -/
import Derived.Test.YtfbggmbmgohiiaaGreatW35
import Derived.Test.YtfbggmbmgohiiaaGreatW47
import Derived.Test.YtfbggmbmgohiiaaGreatW42
import Derived.Test.YtfbggmbmgohiiaaGreatW34
import Derived.Test.YtfbggmbmgohiiaaGreatW48
set_option linter.unusedSimpArgs false
set_option linter.unusedVariables false
set_option maxHeartbeats 4000000
set_option maxRecDepth 100000
namespace Go.Proofs.YtfbggmbmgohiiaaGreat.tb
open Go.RowKit mem rec tm names
theorem posR_eq {K V:Type} {c:K→K→Int} {R:List (K × V)} {k:K} {i:Nat} (hi:i ≤ R.length) (h:∀ j x,j < i→R[j]? = some x→c x.1 k < 0) (hn:∀ x,R[i]? = some x→¬ c x.1 k < 0):posR c R k = i:=by
 unfold posR
 by_cases hlt:i < R.length
 ·rw [List.findIdx_eq hlt]
  refine ⟨?_,fun j hj=>?_⟩
  ·have:=hn _ (List.getElem?_eq_getElem hlt)
   simpa using this
  ·have:=h j _ hj (List.getElem?_eq_getElem (by omega))
   simpa using this
 ·obtain rfl:i = R.length:=by omega
  exact List.findIdx_eq_length.2 (fun x hx=>by
   obtain ⟨j,hj⟩:=List.mem_iff_getElem?.1 hx
   have:=h j x (List.getElem?_eq_some_iff.1 hj).1 hj
   simpa using this)
def absRR {N:Nat} (rows:List (RRw N)):List (Tm (N + 1) × Tm (N + 1)):=rows.map (fun r=>(r.k,r.v))
def PlI {N:Nat} (hs:Bool) (rows:List (RRw N)) (k:Tm (N + 1)) (w:World) (m:Nat) (iv:Value) (wr:World):Prop:=∃ i:Nat,iv = .int .i64 (i:Int)∧i ≤ rows.length∧m = rows.length - i∧(∀ j x,j < i→rows[j]? = some x→cmpH hs x.k k < 0)∧Below w.heap.size w wr
def PlP (n:Nat) (b:Bool) (w:World) (e:Ending) (w':World):Prop:=e = .returned (.tuple #[.int .i64 n,.bool b])∧Below w.heap.size w w'
section
variable {N:Nat} {w w':World} {B:Nat}
theorem place59 (t:RTb N) (hB:B ≤ w.heap.size) (h:RTbAt w B t) (hl:t.rows.length ≤ 1000000) (hnd:∀ r ∈ t.rows,nodesT r.k ≤ 100000000) {k:Tm (N + 1)} {uk:Value} {B2:Nat} (hB2:B2 ≤ w.heap.size) (hJ:ItemsAt w B2 N uk k.items) (hk:nodesT k ≤ 100000000) :
 Calls Tryz.prog 59 #[.agg (rtL t).toArray,aggV k.f uk] w (PlP (posR (cmpH t.hs) (absRR t.rows) k) (hasR (cmpH t.hs) (absRR t.rows) k) w):=by
 obtain ⟨px,hpx⟩:∃ q,posR (cmpH t.hs) (absRR t.rows) k = q:=⟨_,rfl⟩
 obtain ⟨hx,hhx⟩:∃ q,hasR (cmpH t.hs) (absRR t.rows) k = q:=⟨_,rfl⟩
 have hd:∀ i x,i ≤ t.rows.length→(∀ j x,j < i→t.rows[j]? = some x→cmpH t.hs x.k k < 0)→t.rows[i]? = some x→¬ cmpH t.hs x.k k < 0→px = i∧hx = eqB x.k k:=fun i x hi h1 h2 h3=>by
  have hp:posR (cmpH t.hs) (absRR t.rows) k = i:=posR_eq (by unfold absRR;rw [List.length_map];exact hi) (fun j y hj hy=>by
   unfold absRR at hy
   rw [List.getElem?_map] at hy
   cases hq:t.rows[j]? with
   | none=>rw [hq] at hy;cases hy
   | some r=>rw [hq] at hy;obtain rfl:=Option.some.inj hy;exact h1 j r hj hq) (fun y hy=>by
   unfold absRR at hy
   rw [List.getElem?_map,h2] at hy
   obtain rfl:=Option.some.inj hy
   exact h3)
  refine ⟨hpx.symm.trans hp,?_⟩
  rw [← hhx]
  unfold hasR
  rw [hp]
  unfold absRR
  rw [List.getElem?_map,h2]
  rfl
 have he:(∀ j x,j < t.rows.length→t.rows[j]? = some x→cmpH t.hs x.k k < 0)→px = t.rows.length∧hx = false:=fun h1=>by
  have hp:posR (cmpH t.hs) (absRR t.rows) k = t.rows.length:=posR_eq (by unfold absRR;rw [List.length_map];exact Nat.le_refl _) (fun j y hj hy=>by
   unfold absRR at hy
   rw [List.getElem?_map] at hy
   cases hq:t.rows[j]? with
   | none=>rw [hq] at hy;cases hy
   | some r=>rw [hq] at hy;obtain rfl:=Option.some.inj hy;exact h1 j r hj hq) (fun y hy=>by
   unfold absRR at hy
   rw [List.getElem?_map,List.getElem?_eq_none (Nat.le_refl _)] at hy
   cases hy)
  refine ⟨hpx.symm.trans hp,?_⟩
  rw [← hhx]
  unfold hasR
  rw [hp]
  unfold absRR
  rw [List.getElem?_map,List.getElem?_eq_none (Nat.le_refl _)]
  rfl
 rw [hpx,hhx]
 clear hpx hhx
 have HD:=Lib.hid hd
 have HE:=Lib.hid he
 clear hd he
 have hv3:t.ur.oneCell' = true∧t.uo.oneCell' = true∧t.vr.oneCell' = true:=⟨it_one h.iref,it_one h.iown,by obtain ⟨p,c,e,_,_⟩:=h.rows.shape;rw [e];rfl⟩
 have HBf:=Lib.hid (fun (W:World) (hW:Below w.heap.size w W) (i:Nat) (hi:i < t.rows.length)=>before89 (w:=W) t (Nat.le_refl _) hv3 (((h.irow _ (List.getElem_mem hi)).1.below hW hB).more (Nat.le_trans hB hW.size)) ((hJ.below hW hB2).more (Nat.le_trans hB2 hW.size)) (hnd _ (List.getElem_mem hi)) hk)
 have HSm:=Lib.hid (fun (W:World) (hW:Below w.heap.size w W) (i:Nat) (hi:i < t.rows.length)=>rSameOne W W.heap.size (t.rows[i]).uk uk (t.rows[i]).k k (Nat.le_refl _) (((h.irow _ (List.getElem_mem hi)).1.below hW hB).more (Nat.le_trans hB hW.size)) ((hJ.below hW hB2).more (Nat.le_trans hB2 hW.size)))
 have HSh:=Lib.hid (fun (i:Nat) (hi:i < t.rows.length)=>(h.irow _ (List.getElem_mem hi)).1.shape)
 have hrows:=h.rows.row h.enc
 obtain ⟨pv,cv,ev,_,_⟩:=h.rows.shape
 rw [ev] at hrows
 have HEl:=Lib.hid (fun (i:Nat) (hi:i < t.rows.length)=>rec_rng hrows hi)
 obtain ⟨pk,ck,ek,_,_⟩:=hJ.shape
 rw [ek] at HBf HSm ⊢
 obtain ⟨tref,town,ur,uo,hs,vr,rows⟩:=t
 dsimp only at ev hv3 HD HE HBf HSm HSh HEl hl ⊢
 subst ev
 have htv:∀ x,(rtL (N:=N) ⟨tref,town,ur,uo,hs,.slice pv rows.length cv,rows⟩) = x→x = nineL tref.f ur ++ (nineL town.f uo ++ [.bool hs,.slice pv rows.length cv]):=fun x e=>e.symm
 unfold rtL nineL at HBf ⊢
 dsimp only at HBf ⊢
 simp only [List.cons_append,List.nil_append] at HBf ⊢
 clear hB h hnd hB2 hJ hk hrows ek htv hv3
 generalize k.items.length = nk at *
 generalize hkf:k.f = fk at *
 clear hkf
 generalize tref.f = fr at *
 generalize town.f = fo at *
 obtain ⟨kk,ki,kg,kn,kf,ka,kb,kz⟩:=fk
 obtain ⟨rk,ri,rg,rn,rf,ra,rb,rz⟩:=fr
 obtain ⟨ok,oi,og,on,of,oa,ob,oz⟩:=fo
 unfold aggV BPost PlP at *
 dsimp only at *
 have hsz9:(Tryz.prog.info? 24).map (·.size) = some 9:=by kernel_rfl
 have hsz20:(Tryz.prog.info? 53).map (·.size) = some 20:=by kernel_rfl
 obtain ⟨hb0,hz3,hz4⟩:=two_boxes w (.cells #[.int .i64 rk,.int .i64 ri,.int .i64 rg,.string rn,.string rf,.int .i64 ra,ur,.string rb,.int .i64 rz,.int .i64 ok,.int .i64 oi,.int .i64 og,.string on,.string of,.int .i64 oa,uo,.string ob,.int .i64 oz,.bool hs,.slice pv rows.length cv] 53) (.cells #[.int .i64 kk,.int .i64 ki,.int .i64 kg,.string kn,.string kf,.int .i64 ka,.slice pk nk ck,.string kb,.int .i64 kz] 24)
 have hl3:=(Array.getElem?_eq_some_iff.1 hz3).1
 have hl4:=(Array.getElem?_eq_some_iff.1 hz4).1
 go_enter Tryz.func59,Tryz.ntmps59
 go_upto_region 1 with (fail)
 generalize ((w.alloc (.cells #[.int .i64 rk,.int .i64 ri,.int .i64 rg,.string rn,.string rf,.int .i64 ra,ur,.string rb,.int .i64 rz,.int .i64 ok,.int .i64 oi,.int .i64 og,.string on,.string of,.int .i64 oa,uo,.string ob,.int .i64 oz,.bool hs,.slice pv rows.length cv] 53)).alloc (.cells #[.int .i64 kk,.int .i64 ki,.int .i64 kg,.string kn,.string kf,.int .i64 ka,.slice pk nk ck,.string kb,.int .i64 kz] 24)) = W1 at *
 have HX:=Lib.hid (fun W (hW:Below W1.heap.size W1 W)=>(And.intro (cells_row (x:=[.int .i64 rk,.int .i64 ri,.int .i64 rg,.string rn,.string rf,.int .i64 ra,ur,.string rb,.int .i64 rz,.int .i64 ok,.int .i64 oi,.int .i64 og,.string on,.string of,.int .i64 oa,uo,.string ob,.int .i64 oz,.bool hs,.slice pv rows.length cv]) ((hW.block _ hl3).trans hz3) 19 _ rfl) (And.intro (row_rng (x:=[.int .i64 rk,.int .i64 ri,.int .i64 rg,.string rn,.string rf,.int .i64 ra,ur,.string rb,.int .i64 rz,.int .i64 ok,.int .i64 oi,.int .i64 og,.string on,.string of,.int .i64 oa,uo,.string ob,.int .i64 oz,.bool hs,.slice pv rows.length cv]) ((hW.block _ hl3).trans hz3)) (row_rng (x:=[.int .i64 kk,.int .i64 ki,.int .i64 kg,.string kn,.string kf,.int .i64 ka,.slice pk nk ck,.string kb,.int .i64 kz]) ((hW.block _ hl4).trans hz4)))))
 have HB0:=Lib.hid hb0
 have H00:Hid (PlI hs rows k W1 rows.length (.int .i64 0) W1):=Lib.hid ⟨0,rfl,Nat.zero_le _,rfl,fun j x hj=>by omega,Below.refl _ _⟩
 clear hz3 hz4 hl3 hl4 hb0
 go_wp2_with fail
 go_loopg [6] rows.length (fun m iv wr=>Hid (PlI hs rows k W1 m iv wr))
 case atStart=>exact H00
 case round =>
  obtain ⟨i,rfl,hi,hm,hno,hb⟩:=hrel.out
  clear hrel H00
  have hbw:=HB0.out.trans (hb.mono HB0.out.size)
  go_upto_region 2 with (fail)
  replace hb:=hb.trans ((belowD (Below.refl wr.heap.size wr)).mono hb.size)
  replace hbw:=hbw.trans ((belowD (Below.refl wr.heap.size wr)).mono hbw.size)
  by_cases hlt:i < rows.length
  ·have r1:(i:Int) < (rows.length:Int):=by omega
   have r2:decide ((i:Int) < (rows.length:Int)) = true:=decide_eq_true r1
   have r3:decide (i < rows.length) = true:=decide_eq_true hlt
   obtain ⟨g,o,rfl,hg,hR⟩:=HEl.out i hlt
   obtain ⟨pe,ce,ee,_,_⟩:=HSh.out i hlt
   have HB:=Lib.hid (fun W hW=>HBf.out W hW i hlt)
   have HS:=Lib.hid (fun W hW=>HSm.out W hW i hlt)
   have hat:=List.getElem?_eq_getElem hlt
   have HDi:=Lib.hid (fun (hn:¬ cmpH hs (rows[i]).k k < 0)=>HD.out i _ (by omega) hno hat (by omega))
   have HNo:Hid (cmpH hs (rows[i]).k k < 0→∀ j x,j < i + 1→rows[j]? = some x→cmpH hs x.k k < 0):=Lib.hid (fun h j x hj hx=>by
    by_cases e:j = i
    ·subst e;rw [hat] at hx;rw [← Option.some.inj hx];exact h
    ·exact hno j x (by omega) hx)
   have hR9:=rng_pre (a:=nineL (rows[i]).k.f (rows[i]).uk) hR
   rw [ee] at HB HS hR9
   clear hno hat hR ee
   generalize cmpH hs (rows[i]).k k = cv0 at *
   generalize eqB (rows[i]).k k = eq0 at *
   generalize (rows[i]).k.items.length = ne at *
   generalize (rows[i]).k.f = ef at *
   obtain ⟨ek,ei,eg,en,ef,ea,eb,ez⟩:=ef
   unfold nineL at hR9
   dsimp only at HB HS hR9
   have HR:=Lib.hid (fun W (hW:Below w.heap.size w W)=>rng_same hR9 (hW.block g hg))
   have HM:=Lib.hid hm
   clear hm hR9
   refine wp_region_held_drew (S:=(fun w'=>w'.cell? ⟨w.heap.size,19,none⟩ = some (.slice (some ⟨g,o,none⟩) rows.length cv)∧w'.rangeAt w.heap.size 0 [.int .i64 rk,.int .i64 ri,.int .i64 rg,.string rn,.string rf,.int .i64 ra,ur,.string rb,.int .i64 rz,.int .i64 ok,.int .i64 oi,.int .i64 og,.string on,.string of,.int .i64 oa,uo,.string ob,.int .i64 oz,.bool hs,.slice (some ⟨g,o,none⟩) rows.length cv]∧w'.rangeAt (w.heap.size + 1) 0 [.int .i64 kk,.int .i64 ki,.int .i64 kg,.string kn,.string kf,.int .i64 ka,.slice pk nk ck,.string kb,.int .i64 kz]∧w'.rangeAt g (o + i * 18) [.int .i64 ek,.int .i64 ei,.int .i64 eg,.string en,.string ef,.int .i64 ea,.slice pe ne ce,.string eb,.int .i64 ez])) (by kernel_rfl) ?_ (fun hHeld=>?_)
   ·exact ⟨(HX.out _ hb).1,(HX.out _ hb).2.1,(HX.out _ hb).2.2,HR.out _ hbw⟩
   generalize wr.drew = wd at *
   refine run_in [0,1,2,3,4,5,6,7,8,9,10,11,12,13] ?_
   iterate 2 (refine run_e rfl (by kernel_rfl) (by rfl) (fun _ _ _ _ h=>h) (by assumption) ?_;apply Exists.intro;refine And.intro (fun w hSw=>?_) ?_;(focus (try dsimp only at hSw);go_simp;(try with_reducible rfl));(try simp only [Act.put,pA,pB,pC]))
   refine run_r rfl (by kernel_rfl) (fun _ _ _ _ h=>h) (by assumption) (yieldsB_cell (by rfl) 49 (.tmp 8) rfl w.heap.size 19 rfl _ ld49 (fun w hs=>hs.1)) ?_
   (try simp only [Act.put,pA,pB,pC])
   iterate 3 (refine run_e rfl (by kernel_rfl) (by rfl) (fun _ _ _ _ h=>h) (by assumption) ?_;apply Exists.intro;refine And.intro (fun w hSw=>?_) ?_;(focus (try dsimp only at hSw);go_simp;(try with_reducible rfl));(try simp only [Act.put,pA,pB,pC]))
   refine run_r rfl (by kernel_rfl) (fun _ _ _ _ h=>h) (by assumption) (yieldsIf_load_mid (by rfl) 53 (.tmp 2) rfl w.heap.size 0 rfl [.int .i64 rk,.int .i64 ri,.int .i64 rg,.string rn,.string rf,.int .i64 ra,ur,.string rb,.int .i64 rz,.int .i64 ok,.int .i64 oi,.int .i64 og,.string on,.string of,.int .i64 oa,uo,.string ob,.int .i64 oz,.bool hs,.slice (some ⟨g,o,none⟩) rows.length cv] _ (fun w hs=>hs.2.1) Tryz.underlying53 rfl hsz20) ?_
   (try simp only [Act.put,pA,pB,pC])
   (refine run_e rfl (by kernel_rfl) (by rfl) (fun _ _ _ _ h=>h) (by assumption) ?_;apply Exists.intro;refine And.intro (fun w hSw=>?_) ?_;(focus (try dsimp only at hSw);go_simp;(try with_reducible rfl));(try simp only [Act.put,pA,pB,pC]))
   refine run_r rfl (by kernel_rfl) (fun _ _ _ _ h=>h) (by assumption) (yieldsB_cell (by rfl) 49 (.tmp 14) rfl w.heap.size 19 rfl _ ld49 (fun w hs=>hs.1)) ?_
   (try simp only [Act.put,pA,pB,pC])
   iterate 3 (refine run_e rfl (by kernel_rfl) (by rfl) (fun _ _ _ _ h=>h) (by assumption) ?_;apply Exists.intro;refine And.intro (fun w hSw=>?_) ?_;(focus (try dsimp only at hSw);go_simp;(try with_reducible rfl));(try simp only [Act.put,pA,pB,pC]))
   refine run_r rfl (by kernel_rfl) (fun _ _ _ _ h=>h) (by assumption) (yieldsIf_load_mid (by rfl) 24 (.tmp 18) rfl g (o + i * 18) rfl [.int .i64 ek,.int .i64 ei,.int .i64 eg,.string en,.string ef,.int .i64 ea,.slice pe ne ce,.string eb,.int .i64 ez] _ (fun w hs=>hs.2.2.2) Tryz.underlying24 rfl hsz9) ?_
   (try simp only [Act.put,pA,pB,pC])
   refine run_r rfl (by kernel_rfl) (fun _ _ _ _ h=>h) (by assumption) (yieldsIf_load_mid (by rfl) 24 (.tmp 3) rfl (w.heap.size + 1) 0 rfl [.int .i64 kk,.int .i64 ki,.int .i64 kg,.string kn,.string kf,.int .i64 ka,.slice pk nk ck,.string kb,.int .i64 kz] _ (fun w hs=>hs.2.2.1) Tryz.underlying24 rfl hsz9) ?_
   (try simp only [Act.put,pA,pB,pC])
   refine run_out ?_
   refine wpAnyH_ready (rs:=[14]) (by kernel_rfl) (by simp) ?_
   refine (readyR rfl (fun K hK=>?_) AllReadyH.nil)
   go_simp
   refine (HB.out _ hbw).mono ?_
   rintro e v1 ⟨rfl,hb1⟩
   replace hb:=hb.trans (hb1.mono hb.size)
   replace hbw:=hbw.trans (hb1.mono hbw.size)
   clear hb1
   go_wp2_with fail
   refine hK.out _ _ ?_ (fun hHeld=>?_)
   ·exact ⟨(HX.out _ hb).1,(HX.out _ hb).2.1,(HX.out _ hb).2.2,HR.out _ hbw⟩
   clear hK K
   (try simp only [Act.put,pA,pB,pC])
   refine run_in [15] ?_
   (refine run_e rfl (by kernel_rfl) (by rfl) (fun _ _ _ _ h=>h) (by assumption) ?_;apply Exists.intro;refine And.intro (fun w hSw=>?_) ?_;(focus (try dsimp only at hSw);go_simp;(try with_reducible rfl));(try simp only [Act.put,pA,pB,pC]))
   refine run_out ?_
   refine wpAnyH_done (by kernel_rfl) ?_ _
   by_cases hlt0:cv0 < 0
   ·have q1:decide (cv0 < 0) = true:=decide_eq_true hlt0
    have HN:=Lib.hid (HNo.out hlt0)
    clear HDi HNo
    go_wp2_with fail
    go_roundg (rows.length - (i + 1))
    case measure=>have:=HM.out;omega
    case rel=>exact Lib.hid ⟨i + 1,by go_num,by omega,rfl,HN.out,hb⟩
   ·have q1:decide (cv0 < 0) = false:=decide_eq_false hlt0
    obtain ⟨hq1,hq2⟩:=HDi.out (by omega)
    replace hq1:=hq1.symm
    subst hq1 hq2
    clear HDi HNo
    go_upto_region 4 with (fail)
    replace hb:=hb.trans ((belowD (Below.refl v1.heap.size v1)).mono hb.size)
    replace hbw:=hbw.trans ((belowD (Below.refl v1.heap.size v1)).mono hbw.size)
    refine wp_region_held_drew (S:=(fun w'=>w'.cell? ⟨w.heap.size,19,none⟩ = some (.slice (some ⟨g,o,none⟩) rows.length cv)∧w'.rangeAt (w.heap.size + 1) 0 [.int .i64 kk,.int .i64 ki,.int .i64 kg,.string kn,.string kf,.int .i64 ka,.slice pk nk ck,.string kb,.int .i64 kz]∧w'.rangeAt g (o + i * 18) [.int .i64 ek,.int .i64 ei,.int .i64 eg,.string en,.string ef,.int .i64 ea,.slice pe ne ce,.string eb,.int .i64 ez])) (by kernel_rfl) ?_ (fun hHeld=>?_)
    ·exact ⟨(HX.out _ hb).1,(HX.out _ hb).2.2,HR.out _ hbw⟩
    refine run_in [0,1,2,3,4,5,6,7,8,9,10,11,12,13] ?_
    iterate 3 (refine run_e rfl (by kernel_rfl) (by rfl) (fun _ _ _ _ h=>h) (by assumption) ?_;apply Exists.intro;refine And.intro (fun w hSw=>?_) ?_;(focus (try dsimp only at hSw);go_simp;(try with_reducible rfl));(try simp only [Act.put,pA,pB,pC]))
    refine run_r rfl (by kernel_rfl) (fun _ _ _ _ h=>h) (by assumption) (yieldsB_cell (by rfl) 49 (.tmp 27) rfl w.heap.size 19 rfl _ ld49 (fun w hs=>hs.1)) ?_
    (try simp only [Act.put,pA,pB,pC])
    iterate 4 (refine run_e rfl (by kernel_rfl) (by rfl) (fun _ _ _ _ h=>h) (by assumption) ?_;apply Exists.intro;refine And.intro (fun w hSw=>?_) ?_;(focus (try dsimp only at hSw);go_simp;(try with_reducible rfl));(try simp only [Act.put,pA,pB,pC]))
    refine run_r rfl (by kernel_rfl) (fun _ _ _ _ h=>h) (by assumption) (yieldsB_cell (by rfl) 49 (.tmp 32) rfl w.heap.size 19 rfl _ ld49 (fun w hs=>hs.1)) ?_
    (try simp only [Act.put,pA,pB,pC])
    iterate 3 (refine run_e rfl (by kernel_rfl) (by rfl) (fun _ _ _ _ h=>h) (by assumption) ?_;apply Exists.intro;refine And.intro (fun w hSw=>?_) ?_;(focus (try dsimp only at hSw);go_simp;(try with_reducible rfl));(try simp only [Act.put,pA,pB,pC]))
    refine run_r rfl (by kernel_rfl) (fun _ _ _ _ h=>h) (by assumption) (yieldsIf_load_mid (by rfl) 24 (.tmp 36) rfl g (o + i * 18) rfl [.int .i64 ek,.int .i64 ei,.int .i64 eg,.string en,.string ef,.int .i64 ea,.slice pe ne ce,.string eb,.int .i64 ez] _ (fun w hs=>hs.2.2) Tryz.underlying24 rfl hsz9) ?_
    (try simp only [Act.put,pA,pB,pC])
    refine run_r rfl (by kernel_rfl) (fun _ _ _ _ h=>h) (by assumption) (yieldsIf_load_mid (by rfl) 24 (.tmp 3) rfl (w.heap.size + 1) 0 rfl [.int .i64 kk,.int .i64 ki,.int .i64 kg,.string kn,.string kf,.int .i64 ka,.slice pk nk ck,.string kb,.int .i64 kz] _ (fun w hs=>hs.2.1) Tryz.underlying24 rfl hsz9) ?_
    (try simp only [Act.put,pA,pB,pC])
    refine run_out ?_
    refine wpAnyH_ready (rs:=[14]) (by kernel_rfl) (by simp) ?_
    refine (readyR rfl (fun K hK=>?_) AllReadyH.nil)
    go_simp
    refine (HS.out _ hbw).mono ?_
    rintro e v2 ⟨rfl,hb1⟩
    replace hb:=hb.trans (hb1.mono hb.size)
    replace hbw:=hbw.trans (hb1.mono hbw.size)
    clear hb1
    go_wp2_with fail
    refine hK.out _ _ ?_ (fun hHeld=>?_)
    ·exact ⟨(HX.out _ hb).1,(HX.out _ hb).2.2,HR.out _ hbw⟩
    clear hK K
    (try simp only [Act.put,pA,pB,pC])
    refine run_in [15,16,17] ?_
    iterate 3 (refine run_e rfl (by kernel_rfl) (by rfl) (fun _ _ _ _ h=>h) (by assumption) ?_;apply Exists.intro;refine And.intro (fun w hSw=>?_) ?_;(focus (try dsimp only at hSw);go_simp;(try with_reducible rfl));(try simp only [Act.put,pA,pB,pC]))
    refine run_out ?_
    refine wpAnyH_done (by kernel_rfl) ?_ _
    go_wp2_with fail
    go_ret2
    exact ⟨rfl,hbw⟩
  ·obtain rfl:i = rows.length:=by omega
   obtain ⟨hq1,hq2⟩:=HE.out hno
   subst hq1 hq2
   clear hno hm HBf HSm HD HE
   refine wp_region_held_drew (S:=(fun w'=>w'.cell? ⟨w.heap.size,19,none⟩ = some (.slice pv rows.length cv))) (by kernel_rfl) ?_ (fun hHeld=>?_)
   ·exact (HX.out _ hb).1
   generalize wr.drew = wd at *
   refine run_in [0,1,2,3,4,5,6,7,8,9,10,11,12,13,14,15] ?_
   iterate 2 (refine run_e rfl (by kernel_rfl) (by rfl) (fun _ _ _ _ h=>h) (by assumption) ?_;apply Exists.intro;refine And.intro (fun w hSw=>?_) ?_;(focus (try dsimp only at hSw);go_simp;(try with_reducible rfl));(try simp only [Act.put,pA,pB,pC]))
   refine run_r rfl (by kernel_rfl) (fun _ _ _ _ h=>h) (by assumption) (yieldsB_cell (by rfl) 49 (.tmp 8) rfl w.heap.size 19 rfl _ ld49 (fun w hs=>hs)) ?_
   (try simp only [Act.put,pA,pB,pC])
   iterate 3 (refine run_e rfl (by kernel_rfl) (by rfl) (fun _ _ _ _ h=>h) (by assumption) ?_;apply Exists.intro;refine And.intro (fun w hSw=>?_) ?_;(focus (try dsimp only at hSw);go_simp;(try with_reducible rfl));(try simp only [Act.put,pA,pB,pC]))
   refine run_u rfl (by kernel_rfl) (fun _ _ _ _ h=>h) (by assumption) (by rfl) ?_
   (try simp only [Act.put,pA,pB,pC])
   refine run_u rfl (by kernel_rfl) (fun _ _ _ _ h=>h) (by assumption) (by rfl) ?_
   (try simp only [Act.put,pA,pB,pC])
   refine run_u rfl (by kernel_rfl) (fun _ _ _ _ h=>h) (by assumption) (by rfl) ?_
   (try simp only [Act.put,pA,pB,pC])
   refine run_u rfl (by kernel_rfl) (fun _ _ _ _ h=>h) (by assumption) (by rfl) ?_
   (try simp only [Act.put,pA,pB,pC])
   refine run_u rfl (by kernel_rfl) (fun _ _ _ _ h=>h) (by assumption) (by rfl) ?_
   (try simp only [Act.put,pA,pB,pC])
   refine run_u rfl (by kernel_rfl) (fun _ _ _ _ h=>h) (by assumption) (by rfl) ?_
   (try simp only [Act.put,pA,pB,pC])
   refine run_u rfl (by kernel_rfl) (fun _ _ _ _ h=>h) (by assumption) (by rfl) ?_
   (try simp only [Act.put,pA,pB,pC])
   refine run_u rfl (by kernel_rfl) (fun _ _ _ _ h=>h) (by assumption) (by rfl) ?_
   (try simp only [Act.put,pA,pB,pC])
   refine run_u rfl (by kernel_rfl) (fun _ _ _ _ h=>h) (by assumption) (by rfl) ?_
   (try simp only [Act.put,pA,pB,pC])
   (refine run_e rfl (by kernel_rfl) (by rfl) (fun _ _ _ _ h=>h) (by assumption) ?_;apply Exists.intro;refine And.intro (fun w hSw=>?_) ?_;(focus (try dsimp only at hSw);go_simp;(try with_reducible rfl));(try simp only [Act.put,pA,pB,pC]))
   refine run_out ?_
   refine wpAnyH_done (by kernel_rfl) ?_ _
   go_upto_region 4 with (fail)
   replace hb:=hb.trans ((belowD (Below.refl wd.heap.size wd)).mono hb.size)
   replace hbw:=hbw.trans ((belowD (Below.refl wd.heap.size wd)).mono hbw.size)
   refine wp_region_held_drew (S:=(fun w'=>w'.cell? ⟨w.heap.size,19,none⟩ = some (.slice pv rows.length cv))) (by kernel_rfl) ?_ (fun hHeld=>?_)
   ·exact (HX.out _ hb).1
   refine run_in [0,1,2,3,4,5,6,7,8,9,10,11,12,13,14,15,16,17] ?_
   iterate 3 (refine run_e rfl (by kernel_rfl) (by rfl) (fun _ _ _ _ h=>h) (by assumption) ?_;apply Exists.intro;refine And.intro (fun w hSw=>?_) ?_;(focus (try dsimp only at hSw);go_simp;(try with_reducible rfl));(try simp only [Act.put,pA,pB,pC]))
   refine run_r rfl (by kernel_rfl) (fun _ _ _ _ h=>h) (by assumption) (yieldsB_cell (by rfl) 49 (.tmp 27) rfl w.heap.size 19 rfl _ ld49 (fun w hs=>hs)) ?_
   (try simp only [Act.put,pA,pB,pC])
   iterate 3 (refine run_e rfl (by kernel_rfl) (by rfl) (fun _ _ _ _ h=>h) (by assumption) ?_;apply Exists.intro;refine And.intro (fun w hSw=>?_) ?_;(focus (try dsimp only at hSw);go_simp;(try with_reducible rfl));(try simp only [Act.put,pA,pB,pC]))
   refine run_u rfl (by kernel_rfl) (fun _ _ _ _ h=>h) (by assumption) (by rfl) ?_
   (try simp only [Act.put,pA,pB,pC])
   refine run_u rfl (by kernel_rfl) (fun _ _ _ _ h=>h) (by assumption) (by rfl) ?_
   (try simp only [Act.put,pA,pB,pC])
   refine run_u rfl (by kernel_rfl) (fun _ _ _ _ h=>h) (by assumption) (by rfl) ?_
   (try simp only [Act.put,pA,pB,pC])
   refine run_u rfl (by kernel_rfl) (fun _ _ _ _ h=>h) (by assumption) (by rfl) ?_
   (try simp only [Act.put,pA,pB,pC])
   refine run_u rfl (by kernel_rfl) (fun _ _ _ _ h=>h) (by assumption) (by rfl) ?_
   (try simp only [Act.put,pA,pB,pC])
   refine run_u rfl (by kernel_rfl) (fun _ _ _ _ h=>h) (by assumption) (by rfl) ?_
   (try simp only [Act.put,pA,pB,pC])
   refine run_u rfl (by kernel_rfl) (fun _ _ _ _ h=>h) (by assumption) (by rfl) ?_
   (try simp only [Act.put,pA,pB,pC])
   refine run_u rfl (by kernel_rfl) (fun _ _ _ _ h=>h) (by assumption) (by rfl) ?_
   (try simp only [Act.put,pA,pB,pC])
   iterate 3 (refine run_e rfl (by kernel_rfl) (by rfl) (fun _ _ _ _ h=>h) (by assumption) ?_;apply Exists.intro;refine And.intro (fun w hSw=>?_) ?_;(focus (try dsimp only at hSw);go_simp;(try with_reducible rfl));(try simp only [Act.put,pA,pB,pC]))
   refine run_out ?_
   refine wpAnyH_done (by kernel_rfl) ?_ _
   go_wp2_with fail
   go_ret2
   exact ⟨rfl,hbw⟩
end
theorem slice_to49 (w:World) (g o n c i:Nat) (hi:i ≤ c):(Instr.slice 49 (.slice (some ⟨g,o,none⟩) n c) none (some (.int .i64 (i:Int))) none).run Tryz.prog w = .ok (.slice (some ⟨g,o,none⟩) i c) w:=by
 have h1:¬ ((i:Int) < 0):=by omega
 have h2:¬ ((c:Int) < (i:Int)):=by omega
 have h3:(i:Int) ≤ (c:Int):=by omega
 go_simp
theorem slice_from49 (w:World) (g o n c i:Nat) (hi:i ≤ n) (hc:n ≤ c) (hne:i < c):(Instr.slice 49 (.slice (some ⟨g,o,none⟩) n c) (some (.int .i64 (i:Int))) none none).run Tryz.prog w = .ok (.slice (some ⟨g,o + i * 18,none⟩) (n - i) (c - i)) w:=by
 have h1:¬ ((i:Int) < 0):=by omega
 have h3:(i:Int) ≤ (n:Int):=by omega
 go_simp
 intro e
 omega
theorem slice_end49 (w:World) (g o n:Nat):(Instr.slice 49 (.slice (some ⟨g,o,none⟩) n n) (some (.int .i64 (n:Int))) none none).run Tryz.prog w = .ok (.slice (some ⟨g,o,none⟩) 0 0) w:=by
 have h1:¬ ((n:Int) < 0):=by omega
 go_simp
theorem slice_nlow49 (w:World):(Instr.slice 49 (.slice none 0 0) (some (.int .i64 ((0:Nat):Int))) none none).run Tryz.prog w = .ok (.slice none 0 0) w:=by
 go_simp
theorem slice_nhigh49 (w:World):(Instr.slice 49 (.slice none 0 0) none (some (.int .i64 ((0:Nat):Int))) none).run Tryz.prog w = .ok (.slice none 0 0) w:=by
 go_simp
theorem low_at49 {α:Type} {enc:α→List Value} {w:World} {D g o c i:Nat} {l:List α} (h:RecAt enc 18 w D (.slice (some ⟨g,o,none⟩) l.length c) l) (hi:i ≤ l.length):∃ p' c',(∀ W':World,(Instr.slice 49 (.slice (some ⟨g,o,none⟩) l.length c) (some (.int .i64 (i:Int))) none none).run Tryz.prog W' = .ok (.slice (some ⟨g,p',none⟩) (l.length - i) c') W')∧RecAt enc 18 w D (.slice (some ⟨g,p',none⟩) (l.length - i) c') (l.drop i):=by
 obtain ⟨p',c',e,hc,hm⟩:=h.shape
 simp only [Value.slice.injEq,true_and] at e
 obtain ⟨_,rfl⟩:=e
 by_cases hne:i < c
 ·exact ⟨_,_,fun W'=>slice_from49 W' g o l.length c i hi hc hne,RecAt.drop h hi⟩
 ·obtain rfl:i = c:=by omega
  have hl:l.length = i:=by omega
  rw [hl,Nat.sub_self]
  refine ⟨o,0,fun W'=>slice_end49 W' g o i,?_⟩
  rw [List.drop_eq_nil_of_le (by omega)]
  exact RecAt.nil _ _ _ _ (Nat.zero_le _)
theorem low_own49 {α:Type} {enc:α→List Value} {e:TypeId} {w:World} {B i:Nat} {v:Value} {l:List α} (hE:EncOK enc 18 l) (h:RecOwn enc e 18 w B v l) (hi:i ≤ l.length):∃ p' c',(∀ W':World,(Instr.slice 49 v (some (.int .i64 (i:Int))) none none).run Tryz.prog W' = .ok (.slice p' (l.length - i) c') W')∧RecAt enc 18 w w.heap.size (.slice p' (l.length - i) c') (l.drop i)∧(∀ g,(Value.slice p' (l.length - i) c').ownBlock = some g→v.ownBlock = some g)∧(i < l.length→∃ g o,p' = some ⟨g,o,none⟩):=by
 have hrow:=h.row hE
 rcases h.2 with ⟨rfl,h0⟩ | ⟨g,cap,cur,rfl,_⟩
 ·obtain rfl:i = 0:=by omega
  rw [h0]
  refine ⟨none,0,fun W'=>slice_nlow49 W',?_,fun g hg=>by simp [Value.ownBlock] at hg,fun hq=>by omega⟩
  have:l = []:=List.eq_nil_of_length_eq_zero h0
  subst this
  exact RecAt.nil _ _ _ _ (Nat.zero_le _)
 ·obtain ⟨p',c',h1,h2⟩:=low_at49 hrow hi
  exact ⟨_,c',h1,h2,fun g' hg=>by simpa [Value.ownBlock] using hg,fun _=>⟨g,p',rfl⟩⟩
theorem high_own49 {α:Type} {enc:α→List Value} {e:TypeId} {w:World} {B i:Nat} {v:Value} {l:List α} (hE:EncOK enc 18 l) (h:RecOwn enc e 18 w B v l) (hi:i ≤ l.length):∃ p' c',(∀ W':World,(Instr.slice 49 v none (some (.int .i64 (i:Int))) none).run Tryz.prog W' = .ok (.slice p' i c') W')∧RecAt enc 18 w w.heap.size (.slice p' i c') (l.take i)∧(∀ g,(Value.slice p' i c').ownBlock = some g→v.ownBlock = some g):=by
 have hrow:=h.row hE
 rcases h.2 with ⟨rfl,h0⟩ | ⟨g,cap,cur,rfl,_,_,hnc,_⟩
 ·obtain rfl:i = 0:=by omega
  refine ⟨none,0,fun W'=>slice_nhigh49 W',?_,fun g hg=>by simp [Value.ownBlock] at hg⟩
  rw [List.take_zero]
  exact RecAt.nil _ _ _ _ (Nat.zero_le _)
 ·exact ⟨some ⟨g,0,none⟩,cap,fun W'=>slice_to49 W' g 0 l.length cap i (by omega),RecAt.take hrow hi,fun g' hg=>by simpa [Value.ownBlock] using hg⟩
theorem slice_to37 (w:World) (g o n c i:Nat) (hi:i ≤ c):(Instr.slice 37 (.slice (some ⟨g,o,none⟩) n c) none (some (.int .i64 (i:Int))) none).run Tryz.prog w = .ok (.slice (some ⟨g,o,none⟩) i c) w:=by
 have h1:¬ ((i:Int) < 0):=by omega
 have h2:¬ ((c:Int) < (i:Int)):=by omega
 have h3:(i:Int) ≤ (c:Int):=by omega
 go_simp
theorem slice_from37 (w:World) (g o n c i:Nat) (hi:i ≤ n) (hc:n ≤ c) (hne:i < c):(Instr.slice 37 (.slice (some ⟨g,o,none⟩) n c) (some (.int .i64 (i:Int))) none none).run Tryz.prog w = .ok (.slice (some ⟨g,o + i * 20,none⟩) (n - i) (c - i)) w:=by
 have h1:¬ ((i:Int) < 0):=by omega
 have h3:(i:Int) ≤ (n:Int):=by omega
 go_simp
 intro e
 omega
theorem slice_end37 (w:World) (g o n:Nat):(Instr.slice 37 (.slice (some ⟨g,o,none⟩) n n) (some (.int .i64 (n:Int))) none none).run Tryz.prog w = .ok (.slice (some ⟨g,o,none⟩) 0 0) w:=by
 have h1:¬ ((n:Int) < 0):=by omega
 go_simp
theorem slice_nlow37 (w:World):(Instr.slice 37 (.slice none 0 0) (some (.int .i64 ((0:Nat):Int))) none none).run Tryz.prog w = .ok (.slice none 0 0) w:=by
 go_simp
theorem slice_nhigh37 (w:World):(Instr.slice 37 (.slice none 0 0) none (some (.int .i64 ((0:Nat):Int))) none).run Tryz.prog w = .ok (.slice none 0 0) w:=by
 go_simp
theorem low_at37 {α:Type} {enc:α→List Value} {w:World} {D g o c i:Nat} {l:List α} (h:RecAt enc 20 w D (.slice (some ⟨g,o,none⟩) l.length c) l) (hi:i ≤ l.length):∃ p' c',(∀ W':World,(Instr.slice 37 (.slice (some ⟨g,o,none⟩) l.length c) (some (.int .i64 (i:Int))) none none).run Tryz.prog W' = .ok (.slice (some ⟨g,p',none⟩) (l.length - i) c') W')∧RecAt enc 20 w D (.slice (some ⟨g,p',none⟩) (l.length - i) c') (l.drop i):=by
 obtain ⟨p',c',e,hc,hm⟩:=h.shape
 simp only [Value.slice.injEq,true_and] at e
 obtain ⟨_,rfl⟩:=e
 by_cases hne:i < c
 ·exact ⟨_,_,fun W'=>slice_from37 W' g o l.length c i hi hc hne,RecAt.drop h hi⟩
 ·obtain rfl:i = c:=by omega
  have hl:l.length = i:=by omega
  rw [hl,Nat.sub_self]
  refine ⟨o,0,fun W'=>slice_end37 W' g o i,?_⟩
  rw [List.drop_eq_nil_of_le (by omega)]
  exact RecAt.nil _ _ _ _ (Nat.zero_le _)
theorem low_own37 {α:Type} {enc:α→List Value} {e:TypeId} {w:World} {B i:Nat} {v:Value} {l:List α} (hE:EncOK enc 20 l) (h:RecOwn enc e 20 w B v l) (hi:i ≤ l.length):∃ p' c',(∀ W':World,(Instr.slice 37 v (some (.int .i64 (i:Int))) none none).run Tryz.prog W' = .ok (.slice p' (l.length - i) c') W')∧RecAt enc 20 w w.heap.size (.slice p' (l.length - i) c') (l.drop i)∧(∀ g,(Value.slice p' (l.length - i) c').ownBlock = some g→v.ownBlock = some g)∧(i < l.length→∃ g o,p' = some ⟨g,o,none⟩):=by
 have hrow:=h.row hE
 rcases h.2 with ⟨rfl,h0⟩ | ⟨g,cap,cur,rfl,_⟩
 ·obtain rfl:i = 0:=by omega
  rw [h0]
  refine ⟨none,0,fun W'=>slice_nlow37 W',?_,fun g hg=>by simp [Value.ownBlock] at hg,fun hq=>by omega⟩
  have:l = []:=List.eq_nil_of_length_eq_zero h0
  subst this
  exact RecAt.nil _ _ _ _ (Nat.zero_le _)
 ·obtain ⟨p',c',h1,h2⟩:=low_at37 hrow hi
  exact ⟨_,c',h1,h2,fun g' hg=>by simpa [Value.ownBlock] using hg,fun _=>⟨g,p',rfl⟩⟩
theorem high_own37 {α:Type} {enc:α→List Value} {e:TypeId} {w:World} {B i:Nat} {v:Value} {l:List α} (hE:EncOK enc 20 l) (h:RecOwn enc e 20 w B v l) (hi:i ≤ l.length):∃ p' c',(∀ W':World,(Instr.slice 37 v none (some (.int .i64 (i:Int))) none).run Tryz.prog W' = .ok (.slice p' i c') W')∧RecAt enc 20 w w.heap.size (.slice p' i c') (l.take i)∧(∀ g,(Value.slice p' i c').ownBlock = some g→v.ownBlock = some g):=by
 have hrow:=h.row hE
 rcases h.2 with ⟨rfl,h0⟩ | ⟨g,cap,cur,rfl,_,_,hnc,_⟩
 ·obtain rfl:i = 0:=by omega
  refine ⟨none,0,fun W'=>slice_nhigh37 W',?_,fun g hg=>by simp [Value.ownBlock] at hg⟩
  rw [List.take_zero]
  exact RecAt.nil _ _ _ _ (Nat.zero_le _)
 ·exact ⟨some ⟨g,0,none⟩,cap,fun W'=>slice_to37 W' g 0 l.length cap i (by omega),RecAt.take hrow hi,fun g' hg=>by simpa [Value.ownBlock] using hg⟩
theorem info55:(Tryz.prog.info? 55).map (fun i=>(i.zero,i.size,i.bytes)) = some (some (.agg #[.int .i64 0,.int .i64 0,.int .i64 0,.string ⟨#[]⟩,.string ⟨#[]⟩,.int .i64 0,.slice none 0 0,.string ⟨#[]⟩,.int .i64 0,.int .i64 0,.int .i64 0,.int .i64 0,.string ⟨#[]⟩,.string ⟨#[]⟩,.int .i64 0,.slice none 0 0,.string ⟨#[]⟩,.int .i64 0]),18,224):=by kernel_rfl
theorem el55:ElTy 49 55 18:=elty_of Tryz.underlying49 info55 rfl (by decide) (by decide)
theorem info53:(Tryz.prog.info? 53).map (fun i=>(i.zero,i.size,i.bytes)) = some (some (.agg #[.int .i64 0,.int .i64 0,.int .i64 0,.string ⟨#[]⟩,.string ⟨#[]⟩,.int .i64 0,.slice none 0 0,.string ⟨#[]⟩,.int .i64 0,.int .i64 0,.int .i64 0,.int .i64 0,.string ⟨#[]⟩,.string ⟨#[]⟩,.int .i64 0,.slice none 0 0,.string ⟨#[]⟩,.int .i64 0,.bool false,.slice none 0 0]),20,256):=by kernel_rfl
theorem el53:ElTy 37 53 20:=elty_of Tryz.underlying37 info53 rfl (by decide) (by decide)
section
variable {N:Nat} {w W:World} {B y:Nat} {lv:Value} {T:List (RTb N)} {t:RTb N}
theorem flat_setR:∀ (T:List (RTb N)) (i:Nat) (t:RTb N) (v':Value) (rows':List (RRw N)),T[i]? = some t→(T.flatMap rtL).set (i * 20 + 19) v' = (T.set i { t with vr:=v',rows:=rows' }).flatMap rtL
 | [],i,t,v',rows',h=>by simp at h
 | a :: T,0,t,v',rows',h=>by
  simp at h
  subst h
  rw [List.set_cons_zero,List.flatMap_cons,List.flatMap_cons,Nat.zero_mul,Nat.zero_add]
  have hl:(rtL a).length = 20:=rfl
  rw [List.set_append_left _ _ (by omega)]
  rfl
 | a :: T,i + 1,t,v',rows',h=>by
  rw [List.getElem?_cons_succ] at h
  rw [List.set_cons_succ,List.flatMap_cons,List.flatMap_cons]
  have hl:(rtL a).length = 20:=rfl
  rw [List.set_append_right _ _ (by omega),hl,show (i + 1) * 20 + 19 - 20 = i * 20 + 19 by omega,flat_setR T i t v' rows' h]
theorem RfAt.upd (h:RfAt w B y lv T) {g c:Nat} (hlv:lv = .slice (some ⟨g,0,none⟩) T.length c) {i:Nat} (hi:T[i]? = some t) (hb:Below w.heap.size w W) {v':Value} {rows':List (RRw N)} (hown:RecOwn rrL 55 18 W w.heap.size v' rows') (hr:∀ r ∈ rows',ItemsAt W B N r.uk r.k.items∧ItemsAt W B N r.uv r.v.items) :
 RfAt (W.setCell ⟨g,i * 20 + 19,none⟩ v') B y lv (T.set i { t with vr:=v',rows:=rows' })∧TT refT3 B w (W.setCell ⟨g,i * 20 + 19,none⟩ v'):=by
 have hW:=h.below hb
 have hBw:=h.blt
 obtain ⟨hlen,hz | ⟨g',cap,cur,hv,hbg,hg,hnc,hcm,hcs,htk⟩⟩:=hW.l
 ·rw [hlv] at hz;simp at hz
 rw [hlv] at hv
 simp only [Value.slice.injEq,Option.some.injEq,Addr.mk.injEq,and_true,true_and] at hv
 obtain ⟨rfl,rfl⟩:=hv
 have hil:i < T.length:=(List.getElem?_eq_some_iff.1 hi).1
 have hgw:g < w.heap.size:=(h.l.lt (k:=g) (by rw [hlv];rfl)).2
 have htyg:tyOf w g = some 53:=ownTy h.l (by rw [hlv];rfl)
 have hset:∀ q,q ≠ g→(W.setCell ⟨g,i * 20 + 19,none⟩ v').heap[q]? = W.heap[q]?:=fun q hq=>Below.heap_setCell _ _ _ _ hq
 have hyg:y ≠ g:=ty_ne (tyOf_of h.obj) htyg (by decide)
 have hlow:∀ q,q < B→(W.setCell ⟨g,i * 20 + 19,none⟩ v').heap[q]? = W.heap[q]?:=fun q hq=>hset q (by omega)
 have hT:TT refT3 B w (W.setCell ⟨g,i * 20 + 19,none⟩ v'):=TouchB.setCell ((TouchB.refl _ _).ofBelow hb (Nat.le_refl _)) _ _ (fun _=>⟨hbg,53,htyg,.inr (.inl rfl)⟩)
 have hflat:=flat_setR T i t v' rows' hi
 refine ⟨⟨(hset y hyg).trans hW.obj,?_,fun u hu=>?_,h.low⟩,hT⟩
 ·have hls:(T.set i { t with vr:=v',rows:=rows' }).length = T.length:=List.length_set
  unfold RecOwn
  refine ⟨?_,.inr ⟨g,c,cur.setIfInBounds (i * 20 + 19) v',?_,hbg,set_block hg v',by rw [hls];exact hnc,hcm,by rw [Array.size_setIfInBounds];exact hcs,?_⟩⟩
  ·rw [← hflat,List.length_set,hls];exact hlen
  ·rw [hls];exact hlv
  ·rw [hls,Array.toList_setIfInBounds,List.take_set,htk,hflat]
 ·rcases List.mem_or_eq_of_mem_set hu with hu | rfl
  ·exact (hW.tabs u hu).keep hlow (fun q hq=>hset q (ty_ne (ownTy (h.tabs u hu).rows hq) htyg (by decide)))
  ·have ht:=hW.tabs t (List.mem_of_getElem? hi)
   exact ⟨(hown.base (base':=B) (fun k hk=>Nat.le_trans hBw (hown.lt hk).1)).same (fun q hq=>hset q (by have:=(hown.lt hq).1;omega)),ht.iref.same hlow,ht.iown.same hlow,fun r hr'=>⟨(hr r hr').1.same hlow,(hr r hr').2.same hlow⟩⟩
end
theorem st_row (ty:TypeId) (hi:(Tryz.prog.info? ty).map (·.size) = some 1) (w:World) (a:Addr) (v0 v:Value) (hv:v.oneCell' = true) (h:w.cell? a = some v0) (hf:w.frozen? a = false):(storeVar ty a v).run Tryz.prog w = .ok () (w.setCell a v):=by
 cases hq:Tryz.prog.info? ty with
 | none=>simp [hq] at hi
 | some ie =>
  have hs:ie.size = 1:=by simpa [hq] using hi
  have hc:v.cells = #[v]:=by cases v <;> first | rfl | simp [Value.oneCell'] at hv
  have ha:a.add 0 = a:=by cases a;simp [Addr.add]
  simp [storeVar,hc,sizeOf,typeInfo,hq,hs,storeCells,run_store Tryz.prog _ _ v _ hv,ha,h,hf,Result.andThen]
theorem st49 (w:World) (a:Addr) (v0 v:Value) (hv:v.oneCell' = true) (h:w.cell? a = some v0) (hf:w.frozen? a = false):(storeVar 49 a v).run Tryz.prog w = .ok () (w.setCell a v):=st_row 49 (by kernel_rfl) w a v0 v hv h hf
def PutV {N:Nat} (B y:Nat) (lv:Value) (T:List (RTb N)) (i:Nat) (t:RTb N) (R:List (Tm (N + 1) × Tm (N + 1))) (w:World) (w':World):Prop:=∃ v' rows',absRR rows' = R∧RfAt w' B y lv (T.set i { t with vr:=v',rows:=rows' })∧TT refT3 B w w'
section
variable {N:Nat} {w w':World} {B y:Nat} {lv:Value} {T:List (RTb N)} {t:RTb N} {r k v:Tm (N + 1)} {ur0 uk uv:Value}
structure PArg (w:World) (B:Nat) (r k v:Tm (N + 1)) (ur0 uk uv:Value):Prop where
 ir:ItemsAt w B N ur0 r.items
 ik:ItemsAt w B N uk k.items
 iv:ItemsAt w B N uv v.items
 nk:nodesT k ≤ 100000000
 nv:nodesT v ≤ 100000000
theorem rput_k (h:RfAt w B y lv T) (hT:T.length ≤ 1000) (a:PArg w B r k v ur0 uk uv) (hk:validT k = false) :
 Calls Tryz.prog 25 #[.pointer (some ⟨y,0,none⟩),aggV r.f ur0,aggV k.f uk,aggV v.f uv] w fun e w'=>e = .returned (.int .i64 2)∧Below w.heap.size w w':=by
 have hB:=h.blt
 have HVk:=Lib.hid (fun (W:World) (hW:Below w.heap.size w W)=>RValid W B uk k (Nat.le_trans hB hW.size) (a.ik.below hW hB) (by have:=a.nk;omega))
 have HVv:=Lib.hid (fun (W:World) (hW:Below w.heap.size w W)=>RValid W B uv v (Nat.le_trans hB hW.size) (a.iv.below hW hB) (by have:=a.nv;omega))
 have HAt:=Lib.hid (fun (W:World) (hW:Below w.heap.size w W)=>at53 (h.below hW) hT (Nat.le_trans hB hW.size) (a.ir.below hW hB))
 obtain ⟨pr,cr,e1,_,_⟩:=a.ir.shape
 obtain ⟨pk,ck,e2,_,_⟩:=a.ik.shape
 obtain ⟨pv,cv,e3,_,_⟩:=a.iv.shape
 rw [hk] at HVk
 clear HVv
 rw [e1] at HAt ⊢
 rw [e2] at HVk ⊢
 rw [e3]
 clear h hT a hB e1 e2 e3
 generalize r.items.length = nr at *
 generalize k.items.length = nk at *
 generalize v.items.length = nv at *
 generalize hrf:r.f = fr at *
 generalize hkf:k.f = fk at *
 generalize hvf:v.f = fv at *
 obtain ⟨rk,ri,rg,rn,rf,ra,rb,rz⟩:=fr
 obtain ⟨kk,ki,kg,kn,kf,ka,kb,kz⟩:=fk
 obtain ⟨vk,vi,vg,vn,vf,va,vb,vz⟩:=fv
 unfold aggV BPost at *
 dsimp only at *
 have hsz9:(Tryz.prog.info? 24).map (·.size) = some 9:=by kernel_rfl
 obtain ⟨hb0,_,hz5,hz6,hz7⟩:=three_heap w (.cells #[.int .i64 rk,.int .i64 ri,.int .i64 rg,.string rn,.string rf,.int .i64 ra,.slice pr nr cr,.string rb,.int .i64 rz] 24) (.cells #[.int .i64 kk,.int .i64 ki,.int .i64 kg,.string kn,.string kf,.int .i64 ka,.slice pk nk ck,.string kb,.int .i64 kz] 24) (.cells #[.int .i64 vk,.int .i64 vi,.int .i64 vg,.string vn,.string vf,.int .i64 va,.slice pv nv cv,.string vb,.int .i64 vz] 24)
 have hl5:=(Array.getElem?_eq_some_iff.1 hz5).1
 have hl6:=(Array.getElem?_eq_some_iff.1 hz6).1
 have hl7:=(Array.getElem?_eq_some_iff.1 hz7).1
 go_enter Tryz.func25,Tryz.ntmps25
 go_upto_region 1 with (fail)
 generalize (((w.alloc (.cells #[.int .i64 rk,.int .i64 ri,.int .i64 rg,.string rn,.string rf,.int .i64 ra,.slice pr nr cr,.string rb,.int .i64 rz] 24)).alloc (.cells #[.int .i64 kk,.int .i64 ki,.int .i64 kg,.string kn,.string kf,.int .i64 ka,.slice pk nk ck,.string kb,.int .i64 kz] 24)).alloc (.cells #[.int .i64 vk,.int .i64 vi,.int .i64 vg,.string vn,.string vf,.int .i64 va,.slice pv nv cv,.string vb,.int .i64 vz] 24)) = W1 at *
 have HX:=Lib.hid (fun W (hW:Below W1.heap.size W1 W)=>(And.intro (row_rng (x:=[.int .i64 rk,.int .i64 ri,.int .i64 rg,.string rn,.string rf,.int .i64 ra,.slice pr nr cr,.string rb,.int .i64 rz]) ((hW.block _ hl5).trans hz5)) (And.intro (row_rng (x:=[.int .i64 kk,.int .i64 ki,.int .i64 kg,.string kn,.string kf,.int .i64 ka,.slice pk nk ck,.string kb,.int .i64 kz]) ((hW.block _ hl6).trans hz6)) (row_rng (x:=[.int .i64 vk,.int .i64 vi,.int .i64 vg,.string vn,.string vf,.int .i64 va,.slice pv nv cv,.string vb,.int .i64 vz]) ((hW.block _ hl7).trans hz7)))))
 have HX7:=Lib.hid (fun W (hW:Below W1.heap.size W1 W)=>(hW.block _ hl7).trans hz7)
 have hb:=Below.refl W1.heap.size W1
 have HB0:=Lib.hid hb0
 have hbw:=hb0
 have HL:=Lib.hid (And.intro hl5 (And.intro hl6 hl7))
 clear hz5 hz6 hz7 hl5 hl6 hl7 hb0
 have HK1:=Lib.hid (HX.out _ hb).2.1
 go_wp2_with (first
  | (refine wpList_load_mid rfl 24 (.tmp 6) rfl (w.heap.size + 1) 0 rfl [.int .i64 kk,.int .i64 ki,.int .i64 kg,.string kn,.string kf,.int .i64 ka,.slice pk nk ck,.string kb,.int .i64 kz] _ HK1.out Tryz.underlying24 rfl hsz9 ?_))
 refine (HVk.out _ hbw).mono ?_
 rintro e w2 ⟨rfl,hb1⟩
 replace hb:=hb.trans (hb1.mono hb.size)
 replace hbw:=hbw.trans (hb1.mono hbw.size)
 clear hb1 HVk HK1
 go_wp2_with fail
 go_ret
 exact ⟨rfl,hbw⟩
theorem rput_v (h:RfAt w B y lv T) (hT:T.length ≤ 1000) (a:PArg w B r k v ur0 uk uv) (hk:validT k = true) (hv:validT v = false) :
 Calls Tryz.prog 25 #[.pointer (some ⟨y,0,none⟩),aggV r.f ur0,aggV k.f uk,aggV v.f uv] w fun e w'=>e = .returned (.int .i64 2)∧Below w.heap.size w w':=by
 have hB:=h.blt
 have HVk:=Lib.hid (fun (W:World) (hW:Below w.heap.size w W)=>RValid W B uk k (Nat.le_trans hB hW.size) (a.ik.below hW hB) (by have:=a.nk;omega))
 have HVv:=Lib.hid (fun (W:World) (hW:Below w.heap.size w W)=>RValid W B uv v (Nat.le_trans hB hW.size) (a.iv.below hW hB) (by have:=a.nv;omega))
 have HAt:=Lib.hid (fun (W:World) (hW:Below w.heap.size w W)=>at53 (h.below hW) hT (Nat.le_trans hB hW.size) (a.ir.below hW hB))
 obtain ⟨pr,cr,e1,_,_⟩:=a.ir.shape
 obtain ⟨pk,ck,e2,_,_⟩:=a.ik.shape
 obtain ⟨pv,cv,e3,_,_⟩:=a.iv.shape
 rw [hk] at HVk
 rw [hv] at HVv
 rw [e1] at HAt ⊢
 rw [e2] at HVk ⊢
 rw [e3] at HVv ⊢
 clear h hT a hB e1 e2 e3
 generalize r.items.length = nr at *
 generalize k.items.length = nk at *
 generalize v.items.length = nv at *
 generalize hrf:r.f = fr at *
 generalize hkf:k.f = fk at *
 generalize hvf:v.f = fv at *
 obtain ⟨rk,ri,rg,rn,rf,ra,rb,rz⟩:=fr
 obtain ⟨kk,ki,kg,kn,kf,ka,kb,kz⟩:=fk
 obtain ⟨vk,vi,vg,vn,vf,va,vb,vz⟩:=fv
 unfold aggV BPost at *
 dsimp only at *
 have hsz9:(Tryz.prog.info? 24).map (·.size) = some 9:=by kernel_rfl
 obtain ⟨hb0,_,hz5,hz6,hz7⟩:=three_heap w (.cells #[.int .i64 rk,.int .i64 ri,.int .i64 rg,.string rn,.string rf,.int .i64 ra,.slice pr nr cr,.string rb,.int .i64 rz] 24) (.cells #[.int .i64 kk,.int .i64 ki,.int .i64 kg,.string kn,.string kf,.int .i64 ka,.slice pk nk ck,.string kb,.int .i64 kz] 24) (.cells #[.int .i64 vk,.int .i64 vi,.int .i64 vg,.string vn,.string vf,.int .i64 va,.slice pv nv cv,.string vb,.int .i64 vz] 24)
 have hl5:=(Array.getElem?_eq_some_iff.1 hz5).1
 have hl6:=(Array.getElem?_eq_some_iff.1 hz6).1
 have hl7:=(Array.getElem?_eq_some_iff.1 hz7).1
 go_enter Tryz.func25,Tryz.ntmps25
 go_upto_region 1 with (fail)
 generalize (((w.alloc (.cells #[.int .i64 rk,.int .i64 ri,.int .i64 rg,.string rn,.string rf,.int .i64 ra,.slice pr nr cr,.string rb,.int .i64 rz] 24)).alloc (.cells #[.int .i64 kk,.int .i64 ki,.int .i64 kg,.string kn,.string kf,.int .i64 ka,.slice pk nk ck,.string kb,.int .i64 kz] 24)).alloc (.cells #[.int .i64 vk,.int .i64 vi,.int .i64 vg,.string vn,.string vf,.int .i64 va,.slice pv nv cv,.string vb,.int .i64 vz] 24)) = W1 at *
 have HX:=Lib.hid (fun W (hW:Below W1.heap.size W1 W)=>(And.intro (row_rng (x:=[.int .i64 rk,.int .i64 ri,.int .i64 rg,.string rn,.string rf,.int .i64 ra,.slice pr nr cr,.string rb,.int .i64 rz]) ((hW.block _ hl5).trans hz5)) (And.intro (row_rng (x:=[.int .i64 kk,.int .i64 ki,.int .i64 kg,.string kn,.string kf,.int .i64 ka,.slice pk nk ck,.string kb,.int .i64 kz]) ((hW.block _ hl6).trans hz6)) (row_rng (x:=[.int .i64 vk,.int .i64 vi,.int .i64 vg,.string vn,.string vf,.int .i64 va,.slice pv nv cv,.string vb,.int .i64 vz]) ((hW.block _ hl7).trans hz7)))))
 have HX7:=Lib.hid (fun W (hW:Below W1.heap.size W1 W)=>(hW.block _ hl7).trans hz7)
 have hb:=Below.refl W1.heap.size W1
 have HB0:=Lib.hid hb0
 have hbw:=hb0
 have HL:=Lib.hid (And.intro hl5 (And.intro hl6 hl7))
 clear hz5 hz6 hz7 hl5 hl6 hl7 hb0
 have HK1:=Lib.hid (HX.out _ hb).2.1
 go_wp2_with (first
  | (refine wpList_load_mid rfl 24 (.tmp 6) rfl (w.heap.size + 1) 0 rfl [.int .i64 kk,.int .i64 ki,.int .i64 kg,.string kn,.string kf,.int .i64 ka,.slice pk nk ck,.string kb,.int .i64 kz] _ HK1.out Tryz.underlying24 rfl hsz9 ?_))
 refine (HVk.out _ hbw).mono ?_
 rintro e w2 ⟨rfl,hb1⟩
 replace hb:=hb.trans (hb1.mono hb.size)
 replace hbw:=hbw.trans (hb1.mono hbw.size)
 clear hb1 HVk HK1
 obtain ⟨x0,x1,x2,x3,x4,x5,x6,x7,x8,xf⟩:=nine_of (f:=⟨vk,vi,vg,vn,vf,va,vb,vz⟩) (v:=.slice pv nv cv) (HX7.out _ hb)
 dsimp only at x0 x1 x2 x3 x4 x5 x6 x7 x8
 go_wp2_with fail
 refine (HVv.out _ hbw).mono ?_
 rintro e w3 ⟨rfl,hb1⟩
 replace hb:=hb.trans (hb1.mono hb.size)
 replace hbw:=hbw.trans (hb1.mono hbw.size)
 clear hb1 HVv x0 x1 x2 x3 x4 x5 x6 x7 x8 xf
 go_wp2_with fail
 go_ret
 exact ⟨rfl,hbw⟩
theorem rput_n (h:RfAt w B y lv T) (hT:T.length ≤ 1000) (a:PArg w B r k v ur0 uk uv) (hk:validT k = true) (hv:validT v = true) (hr:refR T r = none) :
 Calls Tryz.prog 25 #[.pointer (some ⟨y,0,none⟩),aggV r.f ur0,aggV k.f uk,aggV v.f uv] w fun e w'=>e = .returned (.int .i64 4)∧Below w.heap.size w w':=by
 have hB:=h.blt
 have HVk:=Lib.hid (fun (W:World) (hW:Below w.heap.size w W)=>RValid W B uk k (Nat.le_trans hB hW.size) (a.ik.below hW hB) (by have:=a.nk;omega))
 have HVv:=Lib.hid (fun (W:World) (hW:Below w.heap.size w W)=>RValid W B uv v (Nat.le_trans hB hW.size) (a.iv.below hW hB) (by have:=a.nv;omega))
 have HAt:=Lib.hid (fun (W:World) (hW:Below w.heap.size w W)=>at53 (h.below hW) hT (Nat.le_trans hB hW.size) (a.ir.below hW hB))
 obtain ⟨pr,cr,e1,_,_⟩:=a.ir.shape
 obtain ⟨pk,ck,e2,_,_⟩:=a.ik.shape
 obtain ⟨pv,cv,e3,_,_⟩:=a.iv.shape
 rw [hk] at HVk
 rw [hv] at HVv
 rw [hr] at HAt
 unfold optI at HAt
 dsimp only at HAt
 rw [e1] at HAt ⊢
 rw [e2] at HVk ⊢
 rw [e3] at HVv ⊢
 clear h hT a hB e1 e2 e3
 generalize r.items.length = nr at *
 generalize k.items.length = nk at *
 generalize v.items.length = nv at *
 generalize hrf:r.f = fr at *
 generalize hkf:k.f = fk at *
 generalize hvf:v.f = fv at *
 obtain ⟨rk,ri,rg,rn,rf,ra,rb,rz⟩:=fr
 obtain ⟨kk,ki,kg,kn,kf,ka,kb,kz⟩:=fk
 obtain ⟨vk,vi,vg,vn,vf,va,vb,vz⟩:=fv
 unfold aggV BPost at *
 dsimp only at *
 have hsz9:(Tryz.prog.info? 24).map (·.size) = some 9:=by kernel_rfl
 obtain ⟨hb0,_,hz5,hz6,hz7⟩:=three_heap w (.cells #[.int .i64 rk,.int .i64 ri,.int .i64 rg,.string rn,.string rf,.int .i64 ra,.slice pr nr cr,.string rb,.int .i64 rz] 24) (.cells #[.int .i64 kk,.int .i64 ki,.int .i64 kg,.string kn,.string kf,.int .i64 ka,.slice pk nk ck,.string kb,.int .i64 kz] 24) (.cells #[.int .i64 vk,.int .i64 vi,.int .i64 vg,.string vn,.string vf,.int .i64 va,.slice pv nv cv,.string vb,.int .i64 vz] 24)
 have hl5:=(Array.getElem?_eq_some_iff.1 hz5).1
 have hl6:=(Array.getElem?_eq_some_iff.1 hz6).1
 have hl7:=(Array.getElem?_eq_some_iff.1 hz7).1
 go_enter Tryz.func25,Tryz.ntmps25
 go_upto_region 1 with (fail)
 generalize (((w.alloc (.cells #[.int .i64 rk,.int .i64 ri,.int .i64 rg,.string rn,.string rf,.int .i64 ra,.slice pr nr cr,.string rb,.int .i64 rz] 24)).alloc (.cells #[.int .i64 kk,.int .i64 ki,.int .i64 kg,.string kn,.string kf,.int .i64 ka,.slice pk nk ck,.string kb,.int .i64 kz] 24)).alloc (.cells #[.int .i64 vk,.int .i64 vi,.int .i64 vg,.string vn,.string vf,.int .i64 va,.slice pv nv cv,.string vb,.int .i64 vz] 24)) = W1 at *
 have HX:=Lib.hid (fun W (hW:Below W1.heap.size W1 W)=>(And.intro (row_rng (x:=[.int .i64 rk,.int .i64 ri,.int .i64 rg,.string rn,.string rf,.int .i64 ra,.slice pr nr cr,.string rb,.int .i64 rz]) ((hW.block _ hl5).trans hz5)) (And.intro (row_rng (x:=[.int .i64 kk,.int .i64 ki,.int .i64 kg,.string kn,.string kf,.int .i64 ka,.slice pk nk ck,.string kb,.int .i64 kz]) ((hW.block _ hl6).trans hz6)) (row_rng (x:=[.int .i64 vk,.int .i64 vi,.int .i64 vg,.string vn,.string vf,.int .i64 va,.slice pv nv cv,.string vb,.int .i64 vz]) ((hW.block _ hl7).trans hz7)))))
 have HX7:=Lib.hid (fun W (hW:Below W1.heap.size W1 W)=>(hW.block _ hl7).trans hz7)
 have hb:=Below.refl W1.heap.size W1
 have HB0:=Lib.hid hb0
 have hbw:=hb0
 have HL:=Lib.hid (And.intro hl5 (And.intro hl6 hl7))
 clear hz5 hz6 hz7 hl5 hl6 hl7 hb0
 have HK1:=Lib.hid (HX.out _ hb).2.1
 go_wp2_with (first
  | (refine wpList_load_mid rfl 24 (.tmp 6) rfl (w.heap.size + 1) 0 rfl [.int .i64 kk,.int .i64 ki,.int .i64 kg,.string kn,.string kf,.int .i64 ka,.slice pk nk ck,.string kb,.int .i64 kz] _ HK1.out Tryz.underlying24 rfl hsz9 ?_))
 refine (HVk.out _ hbw).mono ?_
 rintro e w2 ⟨rfl,hb1⟩
 replace hb:=hb.trans (hb1.mono hb.size)
 replace hbw:=hbw.trans (hb1.mono hbw.size)
 clear hb1 HVk HK1
 obtain ⟨x0,x1,x2,x3,x4,x5,x6,x7,x8,xf⟩:=nine_of (f:=⟨vk,vi,vg,vn,vf,va,vb,vz⟩) (v:=.slice pv nv cv) (HX7.out _ hb)
 dsimp only at x0 x1 x2 x3 x4 x5 x6 x7 x8
 go_wp2_with fail
 refine (HVv.out _ hbw).mono ?_
 rintro e w3 ⟨rfl,hb1⟩
 replace hb:=hb.trans (hb1.mono hb.size)
 replace hbw:=hbw.trans (hb1.mono hbw.size)
 clear hb1 HVv x0 x1 x2 x3 x4 x5 x6 x7 x8 xf
 have HR1:=Lib.hid (HX.out _ hb).1
 go_wp2_with (first
  | (refine wpList_load_mid rfl 24 (.tmp 5) rfl w.heap.size 0 rfl [.int .i64 rk,.int .i64 ri,.int .i64 rg,.string rn,.string rf,.int .i64 ra,.slice pr nr cr,.string rb,.int .i64 rz] _ HR1.out Tryz.underlying24 rfl hsz9 ?_))
 refine (HAt.out _ hbw).mono ?_
 rintro e w4 ⟨rfl,hb1⟩
 replace hb:=hb.trans (hb1.mono hb.size)
 replace hbw:=hbw.trans (hb1.mono hbw.size)
 clear hb1 HAt HR1
 go_wp2_with fail
 go_ret
 exact ⟨rfl,hbw⟩
theorem rput_y (h:RfAt w B y lv T) (hT:T.length ≤ 1000) (a:PArg w B r k v ur0 uk uv) (hk:validT k = true) (hv:validT v = true) {i:Nat} (hr:refR T r = some i) (ht:T[i]? = some t) (hl:t.rows.length ≤ 1000000) (hnd:∀ r ∈ t.rows,nodesT r.k ≤ 100000000) :
 Calls Tryz.prog 25 #[.pointer (some ⟨y,0,none⟩),aggV r.f ur0,aggV k.f uk,aggV v.f uv] w fun e w'=>e = .returned (.int .i64 0)∧PutV B y lv T i t (putR (cmpH t.hs) (absRR t.rows) k v) w w':=by
 have hB:=h.blt
 have HVk:=Lib.hid (fun (W:World) (hW:Below w.heap.size w W)=>RValid W B uk k (Nat.le_trans hB hW.size) (a.ik.below hW hB) (by have:=a.nk;omega))
 have HVv:=Lib.hid (fun (W:World) (hW:Below w.heap.size w W)=>RValid W B uv v (Nat.le_trans hB hW.size) (a.iv.below hW hB) (by have:=a.nv;omega))
 have HAt:=Lib.hid (fun (W:World) (hW:Below w.heap.size w W)=>at53 (h.below hW) hT (Nat.le_trans hB hW.size) (a.ir.below hW hB))
 have hil:i < T.length:=(List.getElem?_eq_some_iff.1 ht).1
 have hta:=h.tabs t (List.mem_of_getElem? ht)
 have HPl:=Lib.hid (fun (W:World) (hW:Below w.heap.size w W)=>place59 t (Nat.le_trans hB hW.size) ((h.below hW).tabs t (List.mem_of_getElem? ht)) hl hnd (Nat.le_trans hB hW.size) (a.ik.below hW hB) a.nk)
 have hpl:=posR_le (c:=cmpH t.hs) (absRR t.rows) k
 have hal:(absRR t.rows).length = t.rows.length:=by unfold absRR;rw [List.length_map]
 rw [hal] at hpl
 have hhs:hasR (cmpH t.hs) (absRR t.rows) k = true→posR (cmpH t.hs) (absRR t.rows) k < t.rows.length:=fun e=>by
  obtain ⟨hp,_⟩:=hasR_some e
  rwa [hal] at hp
 have hput:putR (cmpH t.hs) (absRR t.rows) k v = absRR (([] ++ t.rows.take (posR (cmpH t.hs) (absRR t.rows) k)) ++ [⟨k,v,uk,uv⟩] ++ t.rows.drop (if hasR (cmpH t.hs) (absRR t.rows) k then posR (cmpH t.hs) (absRR t.rows) k + 1 else posR (cmpH t.hs) (absRR t.rows) k)):=by
  unfold putR absRR
  simp only [List.nil_append,List.map_append,List.map_take,List.map_drop,List.map_cons,List.map_nil,List.append_assoc,List.cons_append]
 obtain ⟨gl,cl,hlv⟩:∃ gl cl,lv = .slice (some ⟨gl,0,none⟩) T.length cl:=by
  rcases h.l.2 with ⟨_,h0⟩ | ⟨g,cap,cur,e,_⟩
  ·omega
  ·exact ⟨g,cap,e⟩
 have hrl:=rec_rng (by have:=h.l.row h.enc;rwa [hlv] at this) hil
 obtain ⟨g9,o9,e9,hgl,hrg⟩:=hrl
 simp only [Option.some.injEq,Addr.mk.injEq,and_true] at e9
 obtain ⟨rfl,rfl⟩:=e9
 rw [Nat.zero_add] at hrg
 have htt:T[i] = t:=by rw [List.getElem?_eq_getElem hil] at ht;exact Option.some.inj ht
 rw [htt] at hrg
 have HRow:=Lib.hid (fun (W:World) (hW:Below w.heap.size w W)=>rng_same hrg (hW.block gl hgl))
 have HObj:=Lib.hid (fun (W:World) (hW:Below w.heap.size w W)=>cells_row (x:=[lv]) (h.below hW).obj 0 _ rfl)
 have hfzl:∀ W,Below w.heap.size w W→∀ o,W.frozen? ⟨gl,o,none⟩ = false:=fun W hW o=>by
  rcases (h.below hW).l.2 with ⟨e,_⟩ | ⟨g,cap,cur,e,_,hh,_⟩
  ·rw [hlv] at e;simp at e
  ·rw [hlv] at e
   simp only [Value.slice.injEq,Option.some.injEq,Addr.mk.injEq,and_true,true_and] at e
   obtain ⟨rfl,_⟩:=e
   simp only [World.frozen?,hh];simp
 have HFz:=Lib.hid hfzl
 have hyg:y ≠ gl:=ty_ne (tyOf_of h.obj) (ownTy h.l (k:=gl) (by rw [hlv];rfl)) (by decide)
 have hE:=hta.enc
 have hEn:EncOK rrL 18 [(⟨k,v,uk,uv⟩:RRw N)]:=fun x hx=>by
  obtain rfl:=List.mem_singleton.1 hx
  exact ⟨rfl,fun u hu=>by
   unfold rrL at hu
   rcases List.mem_append.1 hu with hu | hu
   ·exact nineL_one (it_one a.ik) u hu
   ·exact nineL_one (it_one a.iv) u hu⟩
 have HFresh:=Lib.hid (fun (W:World) (O:Obj) (hO:O = .cells ([(⟨k,v,uk,uv⟩:RRw N)].flatMap rrL).toArray 55)=>RecAt.fresh (w:=W.alloc O) hEn (by decide) (by rw [← hO];exact alloc_new W O) (c:=1) (Nat.le_refl _) (by decide))
 obtain ⟨px,hpx⟩:∃ q,posR (cmpH t.hs) (absRR t.rows) k = q:=⟨_,rfl⟩
 obtain ⟨hx,hhx⟩:∃ q,hasR (cmpH t.hs) (absRR t.rows) k = q:=⟨_,rfl⟩
 rw [hpx,hhx] at HPl hput hhs
 rw [hpx] at hpl
 have HUpd:=Lib.hid (fun (W:World) (hW:Below w.heap.size w W) (v':Value) (rows':List (RRw N)) (ho:RecOwn rrL 55 18 W w.heap.size v' rows') (he:rows' = ([] ++ t.rows.take px) ++ [⟨k,v,uk,uv⟩] ++ t.rows.drop (if hx then px + 1 else px))=>(show PutV B y lv T i t (putR (cmpH t.hs) (absRR t.rows) k v) w (W.setCell ⟨gl,i * 20 + 19,none⟩ v') from by
  obtain ⟨q1,q2⟩:=RfAt.upd h hlv ht hW ho (fun r hr=>by
   rw [he,List.nil_append] at hr
   have ho:∀ r ∈ t.rows,ItemsAt W B N r.uk r.k.items∧ItemsAt W B N r.uv r.v.items:=fun r hr=>⟨(hta.irow r hr).1.below hW hB,(hta.irow r hr).2.below hW hB⟩
   rcases List.mem_append.1 hr with hr | hr
   ·rcases List.mem_append.1 hr with hr | hr
    ·exact ho r (List.mem_of_mem_take hr)
    ·obtain rfl:=List.mem_singleton.1 hr
     exact ⟨a.ik.below hW hB,a.iv.below hW hB⟩
   ·exact ho r (List.mem_of_mem_drop hr))
  exact ⟨v',rows',by rw [he];exact hput.symm,q1,q2⟩))
 have HLow:=Lib.hid (fun (j:Nat) (hj:j ≤ t.rows.length) (W:World) (hW:Below w.heap.size w W)=>low_own49 hE ((h.below hW).tabs t (List.mem_of_getElem? ht)).rows hj)
 have HHigh:=Lib.hid (fun (j:Nat) (hj:j ≤ t.rows.length) (W:World) (hW:Below w.heap.size w W)=>high_own49 hE ((h.below hW).tabs t (List.mem_of_getElem? ht)).rows hj)
 have HVlt:=Lib.hid (fun (q:Nat) (hq:t.vr.ownBlock = some q)=>(hta.rows.lt hq).2)
 have HET:=Lib.hid (fun (j:Nat)=>(hE.sub (fun x hx=>List.mem_of_mem_take hx):EncOK rrL 18 (t.rows.take j)))
 have HED:=Lib.hid (fun (j:Nat)=>(hE.sub (fun x hx=>List.mem_of_mem_drop hx):EncOK rrL 18 (t.rows.drop j)))
 have HEn:=Lib.hid hEn
 have hyl:=h.ylt
 generalize putR (cmpH t.hs) (absRR t.rows) k v = PR at *
 generalize hPV:PutV B y lv T i t PR w = PV at *
 obtain ⟨pr,cr,e1,_,_⟩:=a.ir.shape
 obtain ⟨pk,ck,e2,_,_⟩:=a.ik.shape
 obtain ⟨pv,cv,e3,_,_⟩:=a.iv.shape
 rw [hk] at HVk
 rw [hv] at HVv
 rw [hr] at HAt
 unfold optI at HAt
 dsimp only at HAt
 rw [e1] at HAt ⊢
 rw [e2] at HVk HPl HUpd HFresh HEn ⊢
 rw [e3] at HVv HUpd HFresh HEn ⊢
 have hcells:∀ (u1 u2:Value),([(⟨k,v,u1,u2⟩:RRw N)].flatMap rrL) = nineL k.f u1 ++ nineL v.f u2:=fun u1 u2=>by simp [rrL]
 rw [hcells] at HFresh
 obtain ⟨rwE,hrwE⟩:∃ x:RRw N,x = ⟨k,v,.slice pk k.items.length ck,.slice pv v.items.length cv⟩:=⟨_,rfl⟩
 rw [← hrwE] at HUpd HFresh HEn
 clear hcells hrwE
 unfold rtL nineL at HRow HPl
 unfold nineL at HFresh
 rw [hlv] at HObj
 clear h hT a hB e1 e2 e3 hta hE hEn hput hal hhx hpx hrg hfzl htt hnd hr ht hlv hk hv hPV
 have hpi:=hil
 generalize T.length = nT at *
 obtain ⟨tref,town,ur,uo,hs,vr,rows⟩:=t
 dsimp only at *
 generalize tref.f = fe at *
 generalize town.f = fo at *
 obtain ⟨ek,ei,eg,en,ef,ea,eb,ez⟩:=fe
 obtain ⟨ok,oi,og,on,of,oa,ob,oz⟩:=fo
 generalize r.items.length = nr at *
 generalize k.items.length = nk at *
 generalize v.items.length = nv at *
 generalize hrf:r.f = fr at *
 generalize hkf:k.f = fk at *
 generalize hvf:v.f = fv at *
 obtain ⟨rk,ri,rg,rn,rf,ra,rb,rz⟩:=fr
 obtain ⟨kk,ki,kg,kn,kf,ka,kb,kz⟩:=fk
 obtain ⟨vk,vi,vg,vn,vf,va,vb,vz⟩:=fv
 unfold aggV BPost PlP at *
 dsimp only at *
 simp only [List.cons_append,List.nil_append] at HRow HPl HFresh
 have hsz20:(Tryz.prog.info? 53).map (·.size) = some 20:=by kernel_rfl
 have hsz9:(Tryz.prog.info? 24).map (·.size) = some 9:=by kernel_rfl
 obtain ⟨hb0,_,hz5,hz6,hz7⟩:=three_heap w (.cells #[.int .i64 rk,.int .i64 ri,.int .i64 rg,.string rn,.string rf,.int .i64 ra,.slice pr nr cr,.string rb,.int .i64 rz] 24) (.cells #[.int .i64 kk,.int .i64 ki,.int .i64 kg,.string kn,.string kf,.int .i64 ka,.slice pk nk ck,.string kb,.int .i64 kz] 24) (.cells #[.int .i64 vk,.int .i64 vi,.int .i64 vg,.string vn,.string vf,.int .i64 va,.slice pv nv cv,.string vb,.int .i64 vz] 24)
 have hl5:=(Array.getElem?_eq_some_iff.1 hz5).1
 have hl6:=(Array.getElem?_eq_some_iff.1 hz6).1
 have hl7:=(Array.getElem?_eq_some_iff.1 hz7).1
 go_enter Tryz.func25,Tryz.ntmps25
 go_upto_region 1 with (fail)
 generalize (((w.alloc (.cells #[.int .i64 rk,.int .i64 ri,.int .i64 rg,.string rn,.string rf,.int .i64 ra,.slice pr nr cr,.string rb,.int .i64 rz] 24)).alloc (.cells #[.int .i64 kk,.int .i64 ki,.int .i64 kg,.string kn,.string kf,.int .i64 ka,.slice pk nk ck,.string kb,.int .i64 kz] 24)).alloc (.cells #[.int .i64 vk,.int .i64 vi,.int .i64 vg,.string vn,.string vf,.int .i64 va,.slice pv nv cv,.string vb,.int .i64 vz] 24)) = W1 at *
 have HX:=Lib.hid (fun W (hW:Below W1.heap.size W1 W)=>(And.intro (row_rng (x:=[.int .i64 rk,.int .i64 ri,.int .i64 rg,.string rn,.string rf,.int .i64 ra,.slice pr nr cr,.string rb,.int .i64 rz]) ((hW.block _ hl5).trans hz5)) (And.intro (row_rng (x:=[.int .i64 kk,.int .i64 ki,.int .i64 kg,.string kn,.string kf,.int .i64 ka,.slice pk nk ck,.string kb,.int .i64 kz]) ((hW.block _ hl6).trans hz6)) (row_rng (x:=[.int .i64 vk,.int .i64 vi,.int .i64 vg,.string vn,.string vf,.int .i64 va,.slice pv nv cv,.string vb,.int .i64 vz]) ((hW.block _ hl7).trans hz7)))))
 have HX7:=Lib.hid (fun W (hW:Below W1.heap.size W1 W)=>(hW.block _ hl7).trans hz7)
 have hb:=Below.refl W1.heap.size W1
 have HB0:=Lib.hid hb0
 have hbw:=hb0
 have HL:=Lib.hid (And.intro hl5 (And.intro hl6 hl7))
 clear hz5 hz6 hz7 hl5 hl6 hl7 hb0
 have HK1:=Lib.hid (HX.out _ hb).2.1
 go_wp2_with (first
  | (refine wpList_load_mid rfl 24 (.tmp 6) rfl (w.heap.size + 1) 0 rfl [.int .i64 kk,.int .i64 ki,.int .i64 kg,.string kn,.string kf,.int .i64 ka,.slice pk nk ck,.string kb,.int .i64 kz] _ HK1.out Tryz.underlying24 rfl hsz9 ?_))
 refine (HVk.out _ hbw).mono ?_
 rintro e w2 ⟨rfl,hb1⟩
 replace hb:=hb.trans (hb1.mono hb.size)
 replace hbw:=hbw.trans (hb1.mono hbw.size)
 clear hb1 HVk HK1
 obtain ⟨x0,x1,x2,x3,x4,x5,x6,x7,x8,xf⟩:=nine_of (f:=⟨vk,vi,vg,vn,vf,va,vb,vz⟩) (v:=.slice pv nv cv) (HX7.out _ hb)
 dsimp only at x0 x1 x2 x3 x4 x5 x6 x7 x8
 go_wp2_with fail
 refine (HVv.out _ hbw).mono ?_
 rintro e w3 ⟨rfl,hb1⟩
 replace hb:=hb.trans (hb1.mono hb.size)
 replace hbw:=hbw.trans (hb1.mono hbw.size)
 clear hb1 HVv x0 x1 x2 x3 x4 x5 x6 x7 x8 xf
 have HR1:=Lib.hid (HX.out _ hb).1
 go_wp2_with (first
  | (refine wpList_load_mid rfl 24 (.tmp 5) rfl w.heap.size 0 rfl [.int .i64 rk,.int .i64 ri,.int .i64 rg,.string rn,.string rf,.int .i64 ra,.slice pr nr cr,.string rb,.int .i64 rz] _ HR1.out Tryz.underlying24 rfl hsz9 ?_))
 refine (HAt.out _ hbw).mono ?_
 rintro e w4 ⟨rfl,hb1⟩
 replace hb:=hb.trans (hb1.mono hb.size)
 replace hbw:=hbw.trans (hb1.mono hbw.size)
 clear hb1 HAt HR1
 have r1:(i:Int) < (nT:Int):=by omega
 have r2:¬ ((i:Int) < 0):=by omega
 go_upto_region 6 with (fail)
 replace hb:=hb.trans ((belowD (Below.refl w4.heap.size w4)).mono hb.size)
 replace hbw:=hbw.trans ((belowD (Below.refl w4.heap.size w4)).mono hbw.size)
 refine wp_region_held_drew (S:=(fun w'=>w'.cell? ⟨y,0,none⟩ = some (.slice (some ⟨gl,0,none⟩) nT cl)∧w'.rangeAt gl (i * 20) [.int .i64 ek,.int .i64 ei,.int .i64 eg,.string en,.string ef,.int .i64 ea,ur,.string eb,.int .i64 ez,.int .i64 ok,.int .i64 oi,.int .i64 og,.string on,.string of,.int .i64 oa,uo,.string ob,.int .i64 oz,.bool hs,vr]∧w'.rangeAt (w.heap.size + 1) 0 [.int .i64 kk,.int .i64 ki,.int .i64 kg,.string kn,.string kf,.int .i64 ka,.slice pk nk ck,.string kb,.int .i64 kz])) (by kernel_rfl) ?_ (fun hHeld=>?_)
 ·exact ⟨HObj.out _ hbw,HRow.out _ hbw,(HX.out _ hb).2.1⟩
 generalize w4.drew = wd at *
 refine run_in [0,1,2,3,4,5,6,7] ?_
 iterate 3 (refine run_e rfl (by kernel_rfl) (by rfl) (fun _ _ _ _ h=>h) (by assumption) ?_;apply Exists.intro;refine And.intro (fun w hSw=>?_) ?_;(focus (try dsimp only at hSw);go_simp;(try with_reducible rfl));(try simp only [Act.put,pA,pB,pC]))
 refine run_r rfl (by kernel_rfl) (fun _ _ _ _ h=>h) (by assumption) (yieldsB_cell (by rfl) 37 (.tmp 30) rfl y 0 rfl _ ld37 (fun w hs=>hs.1)) ?_
 (try simp only [Act.put,pA,pB,pC])
 iterate 2 (refine run_e rfl (by kernel_rfl) (by rfl) (fun _ _ _ _ h=>h) (by assumption) ?_;apply Exists.intro;refine And.intro (fun w hSw=>?_) ?_;(focus (try dsimp only at hSw);go_simp;(try with_reducible rfl));(try simp only [Act.put,pA,pB,pC]))
 refine run_r rfl (by kernel_rfl) (fun _ _ _ _ h=>h) (by assumption) (yieldsIf_load_mid (by rfl) 53 (.tmp 33) rfl gl (i * 20) rfl [.int .i64 ek,.int .i64 ei,.int .i64 eg,.string en,.string ef,.int .i64 ea,ur,.string eb,.int .i64 ez,.int .i64 ok,.int .i64 oi,.int .i64 og,.string on,.string of,.int .i64 oa,uo,.string ob,.int .i64 oz,.bool hs,vr] _ (fun w hs=>hs.2.1) Tryz.underlying53 rfl hsz20) ?_
 (try simp only [Act.put,pA,pB,pC])
 refine run_r rfl (by kernel_rfl) (fun _ _ _ _ h=>h) (by assumption) (yieldsIf_load_mid (by rfl) 24 (.tmp 6) rfl (w.heap.size + 1) 0 rfl [.int .i64 kk,.int .i64 ki,.int .i64 kg,.string kn,.string kf,.int .i64 ka,.slice pk nk ck,.string kb,.int .i64 kz] _ (fun w hs=>hs.2.2) Tryz.underlying24 rfl hsz9) ?_
 (try simp only [Act.put,pA,pB,pC])
 refine run_out ?_
 refine wpAnyH_ready (rs:=[8]) (by kernel_rfl) (by simp) ?_
 refine (readyR rfl (fun K hK=>?_) AllReadyH.nil)
 go_simp
 refine (HPl.out _ hbw).mono ?_
 rintro e w6 ⟨rfl,hb1⟩
 replace hb:=hb.trans (hb1.mono hb.size)
 replace hbw:=hbw.trans (hb1.mono hbw.size)
 clear hb1
 go_wp2_with fail
 refine hK.out _ _ ?_ (fun hHeld=>?_)
 ·exact ⟨HObj.out _ hbw,HRow.out _ hbw,(HX.out _ hb).2.1⟩
 clear hK K
 (try simp only [Act.put,pA,pB,pC])
 refine run_in [9,10,11,12,13] ?_
 iterate 5 (refine run_e rfl (by kernel_rfl) (by rfl) (fun _ _ _ _ h=>h) (by assumption) ?_;apply Exists.intro;refine And.intro (fun w hSw=>?_) ?_;(focus (try dsimp only at hSw);go_simp;(try with_reducible rfl));(try simp only [Act.put,pA,pB,pC]))
 refine run_out ?_
 refine wpAnyH_done (by kernel_rfl) ?_ _
 cases hx
 ·have k0:=HObj.out _ hbw
  have k19:w6.cell? ⟨gl,i * 20 + 19,none⟩ = some vr:=HRow.out _ hbw 19 _ rfl
  obtain ⟨p1,c1,hrun1,hR1,hO1,hS1⟩:=HLow.out px hpl w6 hbw
  have hR2:=hR1
  have hO2:=hO1
  obtain ⟨RV,hRV⟩:∃ x,x = Value.slice p1 (rows.length - px) c1:=⟨_,rfl⟩
  rw [← hRV] at hR2 hO2
  clear hR1 hS1
  obtain ⟨p3,c3,hrun3,hR3,hO3⟩:=HHigh.out px hpl w6 hbw
  have HRest:=Lib.hid (fun W (hW:Below w6.heap.size w6 W)=>hR2.block (w':=W) (fun q hq=>hW.block q (by have:=HVlt.out q (hO2 q hq);have:=hbw.size;omega)))
  have HTk:=Lib.hid hR3
  have HB6:=Lib.hid (And.intro hb hbw)
  have hpc:(px:Int) ≤ (rows.length:Int):=by omega
  clear hR2 hR3 hO1 hO2 hO3 HLow HHigh
  go_upto_region 11 with (first
   | (at_builtin;refine wpList_append_rec el55 rfl (.const (.slice none 0 0)) (.tmp 61) rfl rfl (RecOwn.nil 55 _ w6.heap.size) (Nat.le_refl _) rfl HTk.out (HET.out px) (by simp;omega) ?_;intro v1 W7 hA1)
   | fail)
  skip
  have hb7:Below w6.heap.size w6 W7:=hA1.belowB (Below.refl _ _) (Nat.le_refl _) (fun q hq=>by have h0:(Value.slice none 0 0).ownBlock = some q:=hq;simp [Value.ownBlock] at h0)
  have hX7:=HX.out _ (HB6.out.1.trans (hb7.mono HB6.out.1.size))
  have HK7:=Lib.hid hX7.2.1
  have HV7:=Lib.hid hX7.2.2
  clear hX7
  have hb8:=hb7.trans ((belowA (Below.refl W7.heap.size W7) (.cells #[.int .i64 kk,.int .i64 ki,.int .i64 kg,.string kn,.string kf,.int .i64 ka,.slice pk nk ck,.string kb,.int .i64 kz,.int .i64 vk,.int .i64 vi,.int .i64 vg,.string vn,.string vf,.int .i64 va,.slice pv nv cv,.string vb,.int .i64 vz] 55) (Nat.le_refl _)).mono hb7.size)
  have hown8:=hA1.own.below (belowA (Below.refl W7.heap.size W7) (.cells #[.int .i64 kk,.int .i64 ki,.int .i64 kg,.string kn,.string kf,.int .i64 ka,.slice pk nk ck,.string kb,.int .i64 kz,.int .i64 vk,.int .i64 vi,.int .i64 vg,.string vn,.string vf,.int .i64 va,.slice pv nv cv,.string vb,.int .i64 vz] 55) (Nat.le_refl _))
  have hfr8:=HFresh.out W7 (.cells #[.int .i64 kk,.int .i64 ki,.int .i64 kg,.string kn,.string kf,.int .i64 ka,.slice pk nk ck,.string kb,.int .i64 kz,.int .i64 vk,.int .i64 vi,.int .i64 vg,.string vn,.string vf,.int .i64 va,.slice pv nv cv,.string vb,.int .i64 vz] 55) rfl
  have HO8:=Lib.hid hown8
  have HF8:=Lib.hid hfr8
  have HB8:=Lib.hid hb8
  have HA1:=Lib.hid hA1
  clear hown8 hfr8 hb8 hA1 hb7
  go_upto_region 12 with (first
   | (refine wpList_load_mid rfl 24 (.tmp 6) rfl (w.heap.size + 1) 0 rfl [.int .i64 kk,.int .i64 ki,.int .i64 kg,.string kn,.string kf,.int .i64 ka,.slice pk nk ck,.string kb,.int .i64 kz] _ HK7.out Tryz.underlying24 rfl hsz9 ?_)
   | (refine wpList_load_mid rfl 24 (.tmp 7) rfl (w.heap.size + 2) 0 rfl [.int .i64 vk,.int .i64 vi,.int .i64 vg,.string vn,.string vf,.int .i64 va,.slice pv nv cv,.string vb,.int .i64 vz] _ HV7.out Tryz.underlying24 rfl hsz9 ?_)
   | (at_builtin;refine wpList_append_rec el55 rfl (.tmp 63) (.tmp 67) rfl rfl HO8.out HB8.out.size rfl HF8.out HEn.out (by simp;omega) ?_;intro v2 W9 hA2)
   | fail)
  have hb9:Below w6.heap.size w6 W9:=hA2.belowB HB8.out HB8.out.size (fun q hq=>by have h1:=(HO8.out.lt hq).1;exact h1)
  replace hb9:=hb9.trans ((belowD (Below.refl W9.heap.size W9)).mono hb9.size)
  have hbw9:=HB6.out.2.trans (hb9.mono HB6.out.2.size)
  have hown9:=hA2.own.below (belowD (Below.refl W9.heap.size W9))
  have hrest9:=HRest.out _ hb9
  obtain ⟨v3,W10,hr3,hA3⟩:=run_append_rec el55 hown9 hb9.size 49 hrest9 (HED.out _) (by simp;omega)
  have hb10:Below w6.heap.size w6 W10:=hA3.belowB hb9 hb9.size (fun q hq=>(hown9.lt hq).1)
  have hbw10:=HB6.out.2.trans (hb10.mono HB6.out.2.size)
  have hone3:v3.oneCell' = true:=by obtain ⟨p,c,e,_,_⟩:=hA3.own.shape;rw [e];rfl
  have hP:=HUpd.out W10 hbw10 v3 _ (hA3.own.base (base':=w.heap.size) (fun q hq=>by have h1:=(hA3.own.lt hq).1;have h2:=HB6.out.2.size;omega)) (by rw [if_neg (by decide)])
  have k9:=HObj.out _ hbw9
  have k10:=HObj.out _ hbw10
  have l10:W10.cell? ⟨gl,i * 20 + 19,none⟩ = some vr:=HRow.out _ hbw10 19 _ rfl
  have f10:=HFz.out _ hbw10 (i * 20 + 19)
  have k11:(W10.setCell ⟨gl,i * 20 + 19,none⟩ v3).cell? ⟨y,0,none⟩ = some (.slice (some ⟨gl,0,none⟩) nT cl):=(World.cell?_of_block (w:=W10) (a:=⟨y,0,none⟩) (Below.heap_setCell _ _ _ _ hyg)).trans k10
  have hst:=st49 W10 ⟨gl,i * 20 + 19,none⟩ vr v3 hone3 l10 f10
  refine wp_region_held_drew (S:=(fun w'=>w'.cell? ⟨y,0,none⟩ = some (.slice (some ⟨gl,0,none⟩) nT cl))) (by kernel_rfl) ?_ (fun hHeld=>?_)
  ·exact k9
  refine run_in [0,1,2,3,4,5,6] ?_
  iterate 3 (refine run_e rfl (by kernel_rfl) (by rfl) (fun _ _ _ _ h=>h) (by assumption) ?_;apply Exists.intro;refine And.intro (fun w hSw=>?_) ?_;(focus (try dsimp only at hSw);go_simp;(try with_reducible rfl));(try simp only [Act.put,pA,pB,pC]))
  refine run_r rfl (by kernel_rfl) (fun _ _ _ _ h=>h) (by assumption) (yieldsB_cell (by rfl) 37 (.tmp 71) rfl y 0 rfl _ ld37 (fun w hs=>hs)) ?_
  (try simp only [Act.put,pA,pB,pC])
  iterate 3 (refine run_e rfl (by kernel_rfl) (by rfl) (fun _ _ _ _ h=>h) (by assumption) ?_;apply Exists.intro;refine And.intro (fun w hSw=>?_) ?_;(focus (try dsimp only at hSw);go_simp;(try with_reducible rfl));(try simp only [Act.put,pA,pB,pC]))
  refine run_out ?_
  refine wpAnyH_ready (rs:=[7]) (by kernel_rfl) (by simp) ?_
  refine (readyR rfl (fun K hK=>?_) AllReadyH.nil)
  refine step_append_run (t:=49) (t':=49) (w':=W10) (v:=v3) rfl (.tmp 74) (.tmp 75) rfl rfl rfl ?_ ?_
  ·first | exact hr3 | (rw [← hRV];exact hr3) | (rw [hRV] at hr3;exact hr3)
  refine hK.out _ _ ?_ (fun hHeld=>?_)
  ·first | exact k11 | exact k10
  clear hK K
  (try simp only [Act.put,pA,pB,pC])
  refine run_in [8,9] ?_
  iterate 2 (refine run_e rfl (by kernel_rfl) (by rfl) (fun _ _ _ _ h=>h) (by assumption) ?_;apply Exists.intro;refine And.intro (fun w hSw=>?_) ?_;(focus (try dsimp only at hSw);go_simp;(try with_reducible rfl));(try simp only [Act.put,pA,pB,pC]))
  refine run_out ?_
  refine wpAnyH_ready (rs:=[10]) (by kernel_rfl) (by simp) ?_
  refine (readyR rfl (fun K hK=>?_) AllReadyH.nil)
  refine step_store_run (by rfl) 49 (.tmp 78) (.tmp 76) rfl (p:=⟨gl,i * 20 + 19,none⟩) (v:=v3) rfl rfl hst ?_
  refine hK.out _ _ ?_ (fun hHeld=>?_)
  ·first | exact k11 | exact k10
  clear hK K
  (try simp only [Act.put,pA,pB,pC])
  refine wpAnyH_done (by kernel_rfl) ?_ _
  have HP:=Lib.hid hP
  clear hP
  go_wp2_with fail
  go_ret
  exact ⟨rfl,HP.out⟩
 ·have k0:=HObj.out _ hbw
  have k19:w6.cell? ⟨gl,i * 20 + 19,none⟩ = some vr:=HRow.out _ hbw 19 _ rfl
  obtain ⟨p1,c1,hrun1,hR1,hO1,hS1⟩:=HLow.out px hpl w6 hbw
  have hpl2:=hhs rfl
  obtain ⟨g1,o1,rfl⟩:=hS1 hpl2
  have hdl:(rows.drop px).length = rows.length - px:=List.length_drop
  have hR1':RecAt rrL 18 w6 w6.heap.size (.slice (some ⟨g1,o1,none⟩) (rows.drop px).length c1) (rows.drop px):=by rw [hdl];exact hR1
  obtain ⟨p2,c2,hrun2a,hR2⟩:=low_at49 hR1' (i:=1) (by omega)
  rw [hdl] at hrun2a hR2
  have hrun2:∀ W':World,(Instr.slice 49 (.slice (some ⟨g1,o1,none⟩) (rows.length - px) c1) (some (.int .i64 1)) none none).run Tryz.prog W' = .ok (.slice (some ⟨g1,p2,none⟩) (rows.length - px - 1) c2) W':=hrun2a
  rw [List.drop_drop] at hR2
  have hO2:∀ q,(Value.slice (some ⟨g1,p2,none⟩) (rows.length - px - 1) c2).ownBlock = some q→vr.ownBlock = some q:=fun q hq=>hO1 q hq
  obtain ⟨RV,hRV⟩:∃ x,x = Value.slice (some ⟨g1,p2,none⟩) (rows.length - px - 1) c2:=⟨_,rfl⟩
  rw [← hRV] at hR2 hO2
  clear hrun2a hR1' hR1 hS1
  obtain ⟨p3,c3,hrun3,hR3,hO3⟩:=HHigh.out px hpl w6 hbw
  have HRest:=Lib.hid (fun W (hW:Below w6.heap.size w6 W)=>hR2.block (w':=W) (fun q hq=>hW.block q (by have:=HVlt.out q (hO2 q hq);have:=hbw.size;omega)))
  have HTk:=Lib.hid hR3
  have HB6:=Lib.hid (And.intro hb hbw)
  have hpc:(px:Int) ≤ (rows.length:Int):=by omega
  clear hR2 hR3 hO1 hO2 hO3 HLow HHigh
  go_upto_region 11 with (first
   | (at_builtin;refine wpList_append_rec el55 rfl (.const (.slice none 0 0)) (.tmp 61) rfl rfl (RecOwn.nil 55 _ w6.heap.size) (Nat.le_refl _) rfl HTk.out (HET.out px) (by simp;omega) ?_;intro v1 W7 hA1)
   | fail)
  skip
  have hb7:Below w6.heap.size w6 W7:=hA1.belowB (Below.refl _ _) (Nat.le_refl _) (fun q hq=>by have h0:(Value.slice none 0 0).ownBlock = some q:=hq;simp [Value.ownBlock] at h0)
  have hX7:=HX.out _ (HB6.out.1.trans (hb7.mono HB6.out.1.size))
  have HK7:=Lib.hid hX7.2.1
  have HV7:=Lib.hid hX7.2.2
  clear hX7
  have hb8:=hb7.trans ((belowA (Below.refl W7.heap.size W7) (.cells #[.int .i64 kk,.int .i64 ki,.int .i64 kg,.string kn,.string kf,.int .i64 ka,.slice pk nk ck,.string kb,.int .i64 kz,.int .i64 vk,.int .i64 vi,.int .i64 vg,.string vn,.string vf,.int .i64 va,.slice pv nv cv,.string vb,.int .i64 vz] 55) (Nat.le_refl _)).mono hb7.size)
  have hown8:=hA1.own.below (belowA (Below.refl W7.heap.size W7) (.cells #[.int .i64 kk,.int .i64 ki,.int .i64 kg,.string kn,.string kf,.int .i64 ka,.slice pk nk ck,.string kb,.int .i64 kz,.int .i64 vk,.int .i64 vi,.int .i64 vg,.string vn,.string vf,.int .i64 va,.slice pv nv cv,.string vb,.int .i64 vz] 55) (Nat.le_refl _))
  have hfr8:=HFresh.out W7 (.cells #[.int .i64 kk,.int .i64 ki,.int .i64 kg,.string kn,.string kf,.int .i64 ka,.slice pk nk ck,.string kb,.int .i64 kz,.int .i64 vk,.int .i64 vi,.int .i64 vg,.string vn,.string vf,.int .i64 va,.slice pv nv cv,.string vb,.int .i64 vz] 55) rfl
  have HO8:=Lib.hid hown8
  have HF8:=Lib.hid hfr8
  have HB8:=Lib.hid hb8
  have HA1:=Lib.hid hA1
  clear hown8 hfr8 hb8 hA1 hb7
  go_upto_region 12 with (first
   | (refine wpList_load_mid rfl 24 (.tmp 6) rfl (w.heap.size + 1) 0 rfl [.int .i64 kk,.int .i64 ki,.int .i64 kg,.string kn,.string kf,.int .i64 ka,.slice pk nk ck,.string kb,.int .i64 kz] _ HK7.out Tryz.underlying24 rfl hsz9 ?_)
   | (refine wpList_load_mid rfl 24 (.tmp 7) rfl (w.heap.size + 2) 0 rfl [.int .i64 vk,.int .i64 vi,.int .i64 vg,.string vn,.string vf,.int .i64 va,.slice pv nv cv,.string vb,.int .i64 vz] _ HV7.out Tryz.underlying24 rfl hsz9 ?_)
   | (at_builtin;refine wpList_append_rec el55 rfl (.tmp 63) (.tmp 67) rfl rfl HO8.out HB8.out.size rfl HF8.out HEn.out (by simp;omega) ?_;intro v2 W9 hA2)
   | fail)
  have hb9:Below w6.heap.size w6 W9:=hA2.belowB HB8.out HB8.out.size (fun q hq=>by have h1:=(HO8.out.lt hq).1;exact h1)
  replace hb9:=hb9.trans ((belowD (Below.refl W9.heap.size W9)).mono hb9.size)
  have hbw9:=HB6.out.2.trans (hb9.mono HB6.out.2.size)
  have hown9:=hA2.own.below (belowD (Below.refl W9.heap.size W9))
  have hrest9:=HRest.out _ hb9
  obtain ⟨v3,W10,hr3,hA3⟩:=run_append_rec el55 hown9 hb9.size 49 hrest9 (HED.out _) (by simp;omega)
  have hb10:Below w6.heap.size w6 W10:=hA3.belowB hb9 hb9.size (fun q hq=>(hown9.lt hq).1)
  have hbw10:=HB6.out.2.trans (hb10.mono HB6.out.2.size)
  have hone3:v3.oneCell' = true:=by obtain ⟨p,c,e,_,_⟩:=hA3.own.shape;rw [e];rfl
  have hP:=HUpd.out W10 hbw10 v3 _ (hA3.own.base (base':=w.heap.size) (fun q hq=>by have h1:=(hA3.own.lt hq).1;have h2:=HB6.out.2.size;omega)) (by rw [if_pos rfl])
  have k9:=HObj.out _ hbw9
  have k10:=HObj.out _ hbw10
  have l10:W10.cell? ⟨gl,i * 20 + 19,none⟩ = some vr:=HRow.out _ hbw10 19 _ rfl
  have f10:=HFz.out _ hbw10 (i * 20 + 19)
  have k11:(W10.setCell ⟨gl,i * 20 + 19,none⟩ v3).cell? ⟨y,0,none⟩ = some (.slice (some ⟨gl,0,none⟩) nT cl):=(World.cell?_of_block (w:=W10) (a:=⟨y,0,none⟩) (Below.heap_setCell _ _ _ _ hyg)).trans k10
  have hst:=st49 W10 ⟨gl,i * 20 + 19,none⟩ vr v3 hone3 l10 f10
  refine wp_region_held_drew (S:=(fun w'=>w'.cell? ⟨y,0,none⟩ = some (.slice (some ⟨gl,0,none⟩) nT cl))) (by kernel_rfl) ?_ (fun hHeld=>?_)
  ·exact k9
  refine run_in [0,1,2,3,4,5,6] ?_
  iterate 3 (refine run_e rfl (by kernel_rfl) (by rfl) (fun _ _ _ _ h=>h) (by assumption) ?_;apply Exists.intro;refine And.intro (fun w hSw=>?_) ?_;(focus (try dsimp only at hSw);go_simp;(try with_reducible rfl));(try simp only [Act.put,pA,pB,pC]))
  refine run_r rfl (by kernel_rfl) (fun _ _ _ _ h=>h) (by assumption) (yieldsB_cell (by rfl) 37 (.tmp 71) rfl y 0 rfl _ ld37 (fun w hs=>hs)) ?_
  (try simp only [Act.put,pA,pB,pC])
  iterate 3 (refine run_e rfl (by kernel_rfl) (by rfl) (fun _ _ _ _ h=>h) (by assumption) ?_;apply Exists.intro;refine And.intro (fun w hSw=>?_) ?_;(focus (try dsimp only at hSw);go_simp;(try with_reducible rfl));(try simp only [Act.put,pA,pB,pC]))
  refine run_out ?_
  refine wpAnyH_ready (rs:=[7]) (by kernel_rfl) (by simp) ?_
  refine (readyR rfl (fun K hK=>?_) AllReadyH.nil)
  refine step_append_run (t:=49) (t':=49) (w':=W10) (v:=v3) rfl (.tmp 74) (.tmp 75) rfl rfl rfl ?_ ?_
  ·first | exact hr3 | (rw [← hRV];exact hr3) | (rw [hRV] at hr3;exact hr3)
  refine hK.out _ _ ?_ (fun hHeld=>?_)
  ·first | exact k11 | exact k10
  clear hK K
  (try simp only [Act.put,pA,pB,pC])
  refine run_in [8,9] ?_
  iterate 2 (refine run_e rfl (by kernel_rfl) (by rfl) (fun _ _ _ _ h=>h) (by assumption) ?_;apply Exists.intro;refine And.intro (fun w hSw=>?_) ?_;(focus (try dsimp only at hSw);go_simp;(try with_reducible rfl));(try simp only [Act.put,pA,pB,pC]))
  refine run_out ?_
  refine wpAnyH_ready (rs:=[10]) (by kernel_rfl) (by simp) ?_
  refine (readyR rfl (fun K hK=>?_) AllReadyH.nil)
  refine step_store_run (by rfl) 49 (.tmp 78) (.tmp 76) rfl (p:=⟨gl,i * 20 + 19,none⟩) (v:=v3) rfl rfl hst ?_
  refine hK.out _ _ ?_ (fun hHeld=>?_)
  ·first | exact k11 | exact k10
  clear hK K
  (try simp only [Act.put,pA,pB,pC])
  refine wpAnyH_done (by kernel_rfl) ?_ _
  have HP:=Lib.hid hP
  clear hP
  go_wp2_with fail
  go_ret
  exact ⟨rfl,HP.out⟩
end
section
variable {N:Nat} {w w':World} {B y:Nat} {lv:Value} {T:List (RTb N)} {t:RTb N} {r k:Tm (N + 1)} {ur0 uk:Value}
theorem RfAt.main (h:RfAt w B y lv T) {i:Nat} (ht:T[i]? = some t):∃ gl cl,lv = .slice (some ⟨gl,0,none⟩) T.length cl∧i < T.length∧gl < w.heap.size∧y ≠ gl∧B ≤ gl∧∀ W,Below w.heap.size w W→W.rangeAt gl (i * 20) (rtL t)∧W.cell? ⟨y,0,none⟩ = some lv∧∀ o,W.frozen? ⟨gl,o,none⟩ = false:=by
 have hil:i < T.length:=(List.getElem?_eq_some_iff.1 ht).1
 obtain ⟨gl,cl,hlv⟩:∃ gl cl,lv = .slice (some ⟨gl,0,none⟩) T.length cl:=by
  rcases h.l.2 with ⟨_,h0⟩ | ⟨g,cap,cur,e,_⟩
  ·omega
  ·exact ⟨g,cap,e⟩
 obtain ⟨g9,o9,e9,hgl,hrg⟩:=rec_rng (by have:=h.l.row h.enc;rwa [hlv] at this) hil
 simp only [Option.some.injEq,Addr.mk.injEq,and_true] at e9
 obtain ⟨rfl,rfl⟩:=e9
 rw [Nat.zero_add] at hrg
 have htt:T[i] = t:=by rw [List.getElem?_eq_getElem hil] at ht;exact Option.some.inj ht
 rw [htt] at hrg
 refine ⟨gl,cl,hlv,hil,hgl,ty_ne (tyOf_of h.obj) (ownTy h.l (k:=gl) (by rw [hlv];rfl)) (by decide),(h.l.lt (k:=gl) (by rw [hlv];rfl)).1,fun W hW=>⟨rng_same hrg (hW.block gl hgl),cells_row (x:=[lv]) (h.below hW).obj 0 _ rfl,fun o=>?_⟩⟩
 rcases (h.below hW).l.2 with ⟨e,_⟩ | ⟨g,cap,cur,e,_,hh,_⟩
 ·rw [hlv] at e;simp at e
 ·rw [hlv] at e
  simp only [Value.slice.injEq,Option.some.injEq,Addr.mk.injEq,and_true,true_and] at e
  obtain ⟨rfl,_⟩:=e
  simp only [World.frozen?,hh];simp
structure GArg (w:World) (B:Nat) (r k:Tm (N + 1)) (ur0 uk:Value):Prop where
 ir:ItemsAt w B N ur0 r.items
 ik:ItemsAt w B N uk k.items
 nk:nodesT k ≤ 100000000
theorem rget_k (h:RfAt w B y lv T) (hT:T.length ≤ 1000) (a:GArg w B r k ur0 uk) (hk:validT k = false) :
 Calls Tryz.prog 58 #[.pointer (some ⟨y,0,none⟩),aggV r.f ur0,aggV k.f uk] w fun e w'=>e = .returned (.tuple #[.agg #[.int .i64 0,.int .i64 0,.int .i64 0,.string ⟨#[]⟩,.string ⟨#[]⟩,.int .i64 0,.slice none 0 0,.string ⟨#[]⟩,.int .i64 0],.bool false,.int .i64 2])∧Below w.heap.size w w':=by
 have hB:=h.blt
 have HVk:=Lib.hid (fun (W:World) (hW:Below w.heap.size w W)=>RValid W B uk k (Nat.le_trans hB hW.size) (a.ik.below hW hB) (by have:=a.nk;omega))
 have HAt:=Lib.hid (fun (W:World) (hW:Below w.heap.size w W)=>at53 (h.below hW) hT (Nat.le_trans hB hW.size) (a.ir.below hW hB))
 obtain ⟨pr,cr,e1,_,_⟩:=a.ir.shape
 obtain ⟨pk,ck,e2,_,_⟩:=a.ik.shape
 rw [hk] at HVk
 rw [e1]
 rw [e2] at HVk ⊢
 clear HAt h hT a hB e1 e2
 generalize r.items.length = nr at *
 generalize k.items.length = nk at *
 generalize hrf:r.f = fr at *
 generalize hkf:k.f = fk at *
 obtain ⟨rk,ri,rg,rn,rf,ra,rb,rz⟩:=fr
 obtain ⟨kk,ki,kg,kn,kf,ka,kb,kz⟩:=fk
 unfold aggV BPost at *
 dsimp only at *
 have hsz9:(Tryz.prog.info? 24).map (·.size) = some 9:=by kernel_rfl
 obtain ⟨hb0,_,hz5,hz6,hz7⟩:=three_heap w (.cells #[.int .i64 rk,.int .i64 ri,.int .i64 rg,.string rn,.string rf,.int .i64 ra,.slice pr nr cr,.string rb,.int .i64 rz] 24) (.cells #[.int .i64 kk,.int .i64 ki,.int .i64 kg,.string kn,.string kf,.int .i64 ka,.slice pk nk ck,.string kb,.int .i64 kz] 24) (.cells #[.int .i64 0,.int .i64 0,.int .i64 0,.string ⟨#[]⟩,.string ⟨#[]⟩,.int .i64 0,.slice none 0 0,.string ⟨#[]⟩,.int .i64 0] 24)
 have hl5:=(Array.getElem?_eq_some_iff.1 hz5).1
 have hl6:=(Array.getElem?_eq_some_iff.1 hz6).1
 have hl7:=(Array.getElem?_eq_some_iff.1 hz7).1
 go_enter Tryz.func58,Tryz.ntmps58
 go_upto_region 1 with (fail)
 generalize (((w.alloc (.cells #[.int .i64 rk,.int .i64 ri,.int .i64 rg,.string rn,.string rf,.int .i64 ra,.slice pr nr cr,.string rb,.int .i64 rz] 24)).alloc (.cells #[.int .i64 kk,.int .i64 ki,.int .i64 kg,.string kn,.string kf,.int .i64 ka,.slice pk nk ck,.string kb,.int .i64 kz] 24)).alloc (.cells #[.int .i64 0,.int .i64 0,.int .i64 0,.string ⟨#[]⟩,.string ⟨#[]⟩,.int .i64 0,.slice none 0 0,.string ⟨#[]⟩,.int .i64 0] 24)) = W1 at *
 have HX:=Lib.hid (fun W (hW:Below W1.heap.size W1 W)=>(And.intro (row_rng (x:=[.int .i64 rk,.int .i64 ri,.int .i64 rg,.string rn,.string rf,.int .i64 ra,.slice pr nr cr,.string rb,.int .i64 rz]) ((hW.block _ hl5).trans hz5)) (And.intro (row_rng (x:=[.int .i64 kk,.int .i64 ki,.int .i64 kg,.string kn,.string kf,.int .i64 ka,.slice pk nk ck,.string kb,.int .i64 kz]) ((hW.block _ hl6).trans hz6)) ((hW.block _ hl7).trans hz7))))
 have hb:=Below.refl W1.heap.size W1
 have HB0:=Lib.hid hb0
 have hbw:=hb0
 clear hz5 hz6 hz7 hl5 hl6 hl7 hb0
 have HK1:=Lib.hid (HX.out _ hb).2.1
 go_wp2_with (first
  | (refine wpList_load_mid rfl 24 (.tmp 5) rfl (w.heap.size + 1) 0 rfl [.int .i64 kk,.int .i64 ki,.int .i64 kg,.string kn,.string kf,.int .i64 ka,.slice pk nk ck,.string kb,.int .i64 kz] _ HK1.out Tryz.underlying24 rfl hsz9 ?_))
 refine (HVk.out _ hbw).mono ?_
 rintro e w2 ⟨rfl,hb1⟩
 replace hb:=hb.trans (hb1.mono hb.size)
 replace hbw:=hbw.trans (hb1.mono hbw.size)
 clear hb1 HVk HK1
 have hz6:=(HX.out _ hb).2.2
 have hq6:=setRow_heap w2 (w.heap.size + 2) _ #[.int .i64 0,.int .i64 0,.int .i64 0,.string ⟨#[]⟩,.string ⟨#[]⟩,.int .i64 0,.slice none 0 0,.string ⟨#[]⟩,.int .i64 0] _ _ hz6
 have hbq:=hbw.trans ((touch_setRow w2 (w.heap.size + 2) #[.int .i64 0,.int .i64 0,.int .i64 0,.string ⟨#[]⟩,.string ⟨#[]⟩,.int .i64 0,.slice none 0 0,.string ⟨#[]⟩,.int .i64 0]).below (fun q e=>by omega) hbw.size)
 have HZ:=Lib.hid hz6
 have HF:=Lib.hid (And.intro (run_loadVar_mid (P:=Tryz.prog) _ (w.heap.size + 2) 0 24 [.int .i64 0,.int .i64 0,.int .i64 0,.string ⟨#[]⟩,.string ⟨#[]⟩,.int .i64 0,.slice none 0 0,.string ⟨#[]⟩,.int .i64 0] _ (row_rng hq6) Tryz.underlying24 rfl hsz9) hbq)
 clear hz6 hq6 hbq
 go_wp2_with (first
  | (refine wpList_store_row rfl 24 (.tmp 6) (.tmp 15) rfl (w.heap.size + 2) #[.int .i64 0,.int .i64 0,.int .i64 0,.string ⟨#[]⟩,.string ⟨#[]⟩,.int .i64 0,.slice none 0 0,.string ⟨#[]⟩,.int .i64 0] rfl rfl 24 _ HZ.out hsz9 rfl zoneA ?_))
 (try simp only [Exit.inBlock,Exit.then])
 obtain ⟨hl6,hbp⟩:=HF.out
 refine bodyPost_ret (v:=.tuple #[.agg #[.int .i64 0,.int .i64 0,.int .i64 0,.string ⟨#[]⟩,.string ⟨#[]⟩,.int .i64 0,.slice none 0 0,.string ⟨#[]⟩,.int .i64 0],.bool false,.int .i64 2]) ?_ rfl ⟨rfl,hbp⟩
 have hA:∀ (a:Addr) (w:World),(asAddr (.pointer (some a))).run Tryz.prog w = .ok a w:=fun _ _=>rfl
 rw [results_c2 rfl]
 simp [hA,hl6,Result.andThen]
theorem rget_n (h:RfAt w B y lv T) (hT:T.length ≤ 1000) (a:GArg w B r k ur0 uk) (hk:validT k = true) (hr:refR T r = none) :
 Calls Tryz.prog 58 #[.pointer (some ⟨y,0,none⟩),aggV r.f ur0,aggV k.f uk] w fun e w'=>e = .returned (.tuple #[.agg #[.int .i64 0,.int .i64 0,.int .i64 0,.string ⟨#[]⟩,.string ⟨#[]⟩,.int .i64 0,.slice none 0 0,.string ⟨#[]⟩,.int .i64 0],.bool false,.int .i64 4])∧Below w.heap.size w w':=by
 have hB:=h.blt
 have HVk:=Lib.hid (fun (W:World) (hW:Below w.heap.size w W)=>RValid W B uk k (Nat.le_trans hB hW.size) (a.ik.below hW hB) (by have:=a.nk;omega))
 have HAt:=Lib.hid (fun (W:World) (hW:Below w.heap.size w W)=>at53 (h.below hW) hT (Nat.le_trans hB hW.size) (a.ir.below hW hB))
 obtain ⟨pr,cr,e1,_,_⟩:=a.ir.shape
 obtain ⟨pk,ck,e2,_,_⟩:=a.ik.shape
 rw [hk] at HVk
 rw [hr] at HAt
 unfold optI at HAt
 dsimp only at HAt
 rw [e1] at HAt ⊢
 rw [e2] at HVk ⊢
 clear h hT a hB e1 e2
 generalize r.items.length = nr at *
 generalize k.items.length = nk at *
 generalize hrf:r.f = fr at *
 generalize hkf:k.f = fk at *
 obtain ⟨rk,ri,rg,rn,rf,ra,rb,rz⟩:=fr
 obtain ⟨kk,ki,kg,kn,kf,ka,kb,kz⟩:=fk
 unfold aggV BPost at *
 dsimp only at *
 have hsz9:(Tryz.prog.info? 24).map (·.size) = some 9:=by kernel_rfl
 obtain ⟨hb0,_,hz5,hz6,hz7⟩:=three_heap w (.cells #[.int .i64 rk,.int .i64 ri,.int .i64 rg,.string rn,.string rf,.int .i64 ra,.slice pr nr cr,.string rb,.int .i64 rz] 24) (.cells #[.int .i64 kk,.int .i64 ki,.int .i64 kg,.string kn,.string kf,.int .i64 ka,.slice pk nk ck,.string kb,.int .i64 kz] 24) (.cells #[.int .i64 0,.int .i64 0,.int .i64 0,.string ⟨#[]⟩,.string ⟨#[]⟩,.int .i64 0,.slice none 0 0,.string ⟨#[]⟩,.int .i64 0] 24)
 have hl5:=(Array.getElem?_eq_some_iff.1 hz5).1
 have hl6:=(Array.getElem?_eq_some_iff.1 hz6).1
 have hl7:=(Array.getElem?_eq_some_iff.1 hz7).1
 go_enter Tryz.func58,Tryz.ntmps58
 go_upto_region 1 with (fail)
 generalize (((w.alloc (.cells #[.int .i64 rk,.int .i64 ri,.int .i64 rg,.string rn,.string rf,.int .i64 ra,.slice pr nr cr,.string rb,.int .i64 rz] 24)).alloc (.cells #[.int .i64 kk,.int .i64 ki,.int .i64 kg,.string kn,.string kf,.int .i64 ka,.slice pk nk ck,.string kb,.int .i64 kz] 24)).alloc (.cells #[.int .i64 0,.int .i64 0,.int .i64 0,.string ⟨#[]⟩,.string ⟨#[]⟩,.int .i64 0,.slice none 0 0,.string ⟨#[]⟩,.int .i64 0] 24)) = W1 at *
 have HX:=Lib.hid (fun W (hW:Below W1.heap.size W1 W)=>(And.intro (row_rng (x:=[.int .i64 rk,.int .i64 ri,.int .i64 rg,.string rn,.string rf,.int .i64 ra,.slice pr nr cr,.string rb,.int .i64 rz]) ((hW.block _ hl5).trans hz5)) (And.intro (row_rng (x:=[.int .i64 kk,.int .i64 ki,.int .i64 kg,.string kn,.string kf,.int .i64 ka,.slice pk nk ck,.string kb,.int .i64 kz]) ((hW.block _ hl6).trans hz6)) ((hW.block _ hl7).trans hz7))))
 have hb:=Below.refl W1.heap.size W1
 have HB0:=Lib.hid hb0
 have hbw:=hb0
 clear hz5 hz6 hz7 hl5 hl6 hl7 hb0
 have HK1:=Lib.hid (HX.out _ hb).2.1
 go_wp2_with (first
  | (refine wpList_load_mid rfl 24 (.tmp 5) rfl (w.heap.size + 1) 0 rfl [.int .i64 kk,.int .i64 ki,.int .i64 kg,.string kn,.string kf,.int .i64 ka,.slice pk nk ck,.string kb,.int .i64 kz] _ HK1.out Tryz.underlying24 rfl hsz9 ?_))
 refine (HVk.out _ hbw).mono ?_
 rintro e w2 ⟨rfl,hb1⟩
 replace hb:=hb.trans (hb1.mono hb.size)
 replace hbw:=hbw.trans (hb1.mono hbw.size)
 clear hb1 HVk HK1
 have HR1:=Lib.hid (HX.out _ hb).1
 go_wp2_with (first
  | (refine wpList_load_mid rfl 24 (.tmp 4) rfl w.heap.size 0 rfl [.int .i64 rk,.int .i64 ri,.int .i64 rg,.string rn,.string rf,.int .i64 ra,.slice pr nr cr,.string rb,.int .i64 rz] _ HR1.out Tryz.underlying24 rfl hsz9 ?_))
 refine (HAt.out _ hbw).mono ?_
 rintro e w4 ⟨rfl,hb1⟩
 replace hb:=hb.trans (hb1.mono hb.size)
 replace hbw:=hbw.trans (hb1.mono hbw.size)
 clear hb1 HAt HR1
 have hz6:=(HX.out _ hb).2.2
 have hq6:=setRow_heap w4 (w.heap.size + 2) _ #[.int .i64 0,.int .i64 0,.int .i64 0,.string ⟨#[]⟩,.string ⟨#[]⟩,.int .i64 0,.slice none 0 0,.string ⟨#[]⟩,.int .i64 0] _ _ hz6
 have hbq:=hbw.trans ((touch_setRow w4 (w.heap.size + 2) #[.int .i64 0,.int .i64 0,.int .i64 0,.string ⟨#[]⟩,.string ⟨#[]⟩,.int .i64 0,.slice none 0 0,.string ⟨#[]⟩,.int .i64 0]).below (fun q e=>by omega) hbw.size)
 have HZ:=Lib.hid hz6
 have HF:=Lib.hid (And.intro (run_loadVar_mid (P:=Tryz.prog) _ (w.heap.size + 2) 0 24 [.int .i64 0,.int .i64 0,.int .i64 0,.string ⟨#[]⟩,.string ⟨#[]⟩,.int .i64 0,.slice none 0 0,.string ⟨#[]⟩,.int .i64 0] _ (row_rng hq6) Tryz.underlying24 rfl hsz9) hbq)
 clear hz6 hq6 hbq
 go_wp2_with (first
  | (refine wpList_store_row rfl 24 (.tmp 6) (.tmp 21) rfl (w.heap.size + 2) #[.int .i64 0,.int .i64 0,.int .i64 0,.string ⟨#[]⟩,.string ⟨#[]⟩,.int .i64 0,.slice none 0 0,.string ⟨#[]⟩,.int .i64 0] rfl rfl 24 _ HZ.out hsz9 rfl zoneA ?_))
 (try simp only [Exit.inBlock,Exit.then])
 obtain ⟨hl6,hbp⟩:=HF.out
 refine bodyPost_ret (v:=.tuple #[.agg #[.int .i64 0,.int .i64 0,.int .i64 0,.string ⟨#[]⟩,.string ⟨#[]⟩,.int .i64 0,.slice none 0 0,.string ⟨#[]⟩,.int .i64 0],.bool false,.int .i64 4]) ?_ rfl ⟨rfl,hbp⟩
 have hA:∀ (a:Addr) (w:World),(asAddr (.pointer (some a))).run Tryz.prog w = .ok a w:=fun _ _=>rfl
 rw [results_c2 rfl]
 simp [hA,hl6,Result.andThen]
theorem rget_f (h:RfAt w B y lv T) (hT:T.length ≤ 1000) (a:GArg w B r k ur0 uk) (hk:validT k = true) {i:Nat} (hr:refR T r = some i) (ht:T[i]? = some t) (hl:t.rows.length ≤ 1000000) (hnd:∀ r ∈ t.rows,nodesT r.k ≤ 100000000) (hno:hasR (cmpH t.hs) (absRR t.rows) k = false) :
 Calls Tryz.prog 58 #[.pointer (some ⟨y,0,none⟩),aggV r.f ur0,aggV k.f uk] w fun e w'=>e = .returned (.tuple #[.agg #[.int .i64 0,.int .i64 0,.int .i64 0,.string ⟨#[]⟩,.string ⟨#[]⟩,.int .i64 0,.slice none 0 0,.string ⟨#[]⟩,.int .i64 0],.bool false,.int .i64 0])∧Below w.heap.size w w':=by
 have hB:=h.blt
 have HVk:=Lib.hid (fun (W:World) (hW:Below w.heap.size w W)=>RValid W B uk k (Nat.le_trans hB hW.size) (a.ik.below hW hB) (by have:=a.nk;omega))
 have HAt:=Lib.hid (fun (W:World) (hW:Below w.heap.size w W)=>at53 (h.below hW) hT (Nat.le_trans hB hW.size) (a.ir.below hW hB))
 obtain ⟨gl,cl,hlv,hil,hgl,hyg,_,hm⟩:=h.main ht
 have HM:=Lib.hid hm
 have HPl:=Lib.hid (fun (W:World) (hW:Below w.heap.size w W)=>place59 t (Nat.le_trans hB hW.size) ((h.below hW).tabs t (List.mem_of_getElem? ht)) hl hnd (Nat.le_trans hB hW.size) (a.ik.below hW hB) a.nk)
 rw [hno] at HPl
 generalize posR (cmpH t.hs) (absRR t.rows) k = px at *
 clear hno
 obtain ⟨pr,cr,e1,_,_⟩:=a.ir.shape
 obtain ⟨pk,ck,e2,_,_⟩:=a.ik.shape
 rw [hk] at HVk
 rw [hr] at HAt
 unfold optI at HAt
 dsimp only at HAt
 rw [e1] at HAt ⊢
 rw [e2] at HVk HPl ⊢
 unfold rtL nineL at HM HPl
 rw [hlv] at HM
 clear h hT a hB e1 e2 hnd hr ht hlv hk hm hl
 generalize T.length = nT at *
 obtain ⟨tref,town,ur,uo,hs,vr,rows⟩:=t
 dsimp only at *
 generalize tref.f = fe at *
 generalize town.f = fo at *
 obtain ⟨ek,ei,eg,en,ef,ea,eb,ez⟩:=fe
 obtain ⟨ok,oi,og,on,of,oa,ob,oz⟩:=fo
 generalize r.items.length = nr at *
 generalize k.items.length = nk at *
 generalize hrf:r.f = fr at *
 generalize hkf:k.f = fk at *
 obtain ⟨rk,ri,rg,rn,rf,ra,rb,rz⟩:=fr
 obtain ⟨kk,ki,kg,kn,kf,ka,kb,kz⟩:=fk
 unfold aggV BPost PlP at *
 dsimp only at *
 simp only [List.cons_append,List.nil_append] at HM HPl
 have hsz20:(Tryz.prog.info? 53).map (·.size) = some 20:=by kernel_rfl
 have hsz9:(Tryz.prog.info? 24).map (·.size) = some 9:=by kernel_rfl
 obtain ⟨hb0,_,hz5,hz6,hz7⟩:=three_heap w (.cells #[.int .i64 rk,.int .i64 ri,.int .i64 rg,.string rn,.string rf,.int .i64 ra,.slice pr nr cr,.string rb,.int .i64 rz] 24) (.cells #[.int .i64 kk,.int .i64 ki,.int .i64 kg,.string kn,.string kf,.int .i64 ka,.slice pk nk ck,.string kb,.int .i64 kz] 24) (.cells #[.int .i64 0,.int .i64 0,.int .i64 0,.string ⟨#[]⟩,.string ⟨#[]⟩,.int .i64 0,.slice none 0 0,.string ⟨#[]⟩,.int .i64 0] 24)
 have hl5:=(Array.getElem?_eq_some_iff.1 hz5).1
 have hl6:=(Array.getElem?_eq_some_iff.1 hz6).1
 have hl7:=(Array.getElem?_eq_some_iff.1 hz7).1
 go_enter Tryz.func58,Tryz.ntmps58
 go_upto_region 1 with (fail)
 generalize (((w.alloc (.cells #[.int .i64 rk,.int .i64 ri,.int .i64 rg,.string rn,.string rf,.int .i64 ra,.slice pr nr cr,.string rb,.int .i64 rz] 24)).alloc (.cells #[.int .i64 kk,.int .i64 ki,.int .i64 kg,.string kn,.string kf,.int .i64 ka,.slice pk nk ck,.string kb,.int .i64 kz] 24)).alloc (.cells #[.int .i64 0,.int .i64 0,.int .i64 0,.string ⟨#[]⟩,.string ⟨#[]⟩,.int .i64 0,.slice none 0 0,.string ⟨#[]⟩,.int .i64 0] 24)) = W1 at *
 have HX:=Lib.hid (fun W (hW:Below W1.heap.size W1 W)=>(And.intro (row_rng (x:=[.int .i64 rk,.int .i64 ri,.int .i64 rg,.string rn,.string rf,.int .i64 ra,.slice pr nr cr,.string rb,.int .i64 rz]) ((hW.block _ hl5).trans hz5)) (And.intro (row_rng (x:=[.int .i64 kk,.int .i64 ki,.int .i64 kg,.string kn,.string kf,.int .i64 ka,.slice pk nk ck,.string kb,.int .i64 kz]) ((hW.block _ hl6).trans hz6)) ((hW.block _ hl7).trans hz7))))
 have hb:=Below.refl W1.heap.size W1
 have HB0:=Lib.hid hb0
 have hbw:=hb0
 clear hz5 hz6 hz7 hl5 hl6 hl7 hb0
 have HK1:=Lib.hid (HX.out _ hb).2.1
 go_wp2_with (first
  | (refine wpList_load_mid rfl 24 (.tmp 5) rfl (w.heap.size + 1) 0 rfl [.int .i64 kk,.int .i64 ki,.int .i64 kg,.string kn,.string kf,.int .i64 ka,.slice pk nk ck,.string kb,.int .i64 kz] _ HK1.out Tryz.underlying24 rfl hsz9 ?_))
 refine (HVk.out _ hbw).mono ?_
 rintro e w2 ⟨rfl,hb1⟩
 replace hb:=hb.trans (hb1.mono hb.size)
 replace hbw:=hbw.trans (hb1.mono hbw.size)
 clear hb1 HVk HK1
 have HR1:=Lib.hid (HX.out _ hb).1
 go_wp2_with (first
  | (refine wpList_load_mid rfl 24 (.tmp 4) rfl w.heap.size 0 rfl [.int .i64 rk,.int .i64 ri,.int .i64 rg,.string rn,.string rf,.int .i64 ra,.slice pr nr cr,.string rb,.int .i64 rz] _ HR1.out Tryz.underlying24 rfl hsz9 ?_))
 refine (HAt.out _ hbw).mono ?_
 rintro e w4 ⟨rfl,hb1⟩
 replace hb:=hb.trans (hb1.mono hb.size)
 replace hbw:=hbw.trans (hb1.mono hbw.size)
 clear hb1 HAt HR1
 have r1:(i:Int) < (nT:Int):=by omega
 have r2:¬ ((i:Int) < 0):=by omega
 go_upto_region 6 with (fail)
 replace hb:=hb.trans ((belowD (Below.refl w4.heap.size w4)).mono hb.size)
 replace hbw:=hbw.trans ((belowD (Below.refl w4.heap.size w4)).mono hbw.size)
 refine wp_region_held_drew (S:=(fun w'=>w'.cell? ⟨y,0,none⟩ = some (.slice (some ⟨gl,0,none⟩) nT cl)∧w'.rangeAt gl (i * 20) [.int .i64 ek,.int .i64 ei,.int .i64 eg,.string en,.string ef,.int .i64 ea,ur,.string eb,.int .i64 ez,.int .i64 ok,.int .i64 oi,.int .i64 og,.string on,.string of,.int .i64 oa,uo,.string ob,.int .i64 oz,.bool hs,vr]∧w'.rangeAt (w.heap.size + 1) 0 [.int .i64 kk,.int .i64 ki,.int .i64 kg,.string kn,.string kf,.int .i64 ka,.slice pk nk ck,.string kb,.int .i64 kz])) (by kernel_rfl) ?_ (fun hHeld=>?_)
 ·exact ⟨(HM.out _ hbw).2.1,(HM.out _ hbw).1,(HX.out _ hb).2.1⟩
 generalize w4.drew = wd at *
 refine run_in [0,1,2,3,4,5,6,7] ?_
 iterate 6 (refine run_e rfl (by kernel_rfl) (by rfl) (fun _ _ _ _ h=>h) (by assumption) ?_;apply Exists.intro;refine And.intro (fun w hSw=>?_) ?_;(focus (try dsimp only at hSw);go_simp;(try with_reducible rfl));(try simp only [Act.put,pA,pB,pC]))
 refine run_r rfl (by kernel_rfl) (fun _ _ _ _ h=>h) (by assumption) (yieldsIf_load_mid (by rfl) 53 (.tmp 28) rfl gl (i * 20) rfl [.int .i64 ek,.int .i64 ei,.int .i64 eg,.string en,.string ef,.int .i64 ea,ur,.string eb,.int .i64 ez,.int .i64 ok,.int .i64 oi,.int .i64 og,.string on,.string of,.int .i64 oa,uo,.string ob,.int .i64 oz,.bool hs,vr] _ (fun w hs=>hs.2.1) Tryz.underlying53 rfl hsz20) ?_
 (try simp only [Act.put,pA,pB,pC])
 refine run_r rfl (by kernel_rfl) (fun _ _ _ _ h=>h) (by assumption) (yieldsIf_load_mid (by rfl) 24 (.tmp 5) rfl (w.heap.size + 1) 0 rfl [.int .i64 kk,.int .i64 ki,.int .i64 kg,.string kn,.string kf,.int .i64 ka,.slice pk nk ck,.string kb,.int .i64 kz] _ (fun w hs=>hs.2.2) Tryz.underlying24 rfl hsz9) ?_
 (try simp only [Act.put,pA,pB,pC])
 refine run_out ?_
 refine wpAnyH_ready (rs:=[8]) (by kernel_rfl) (by simp) ?_
 refine (readyR rfl (fun K hK=>?_) AllReadyH.nil)
 go_simp
 refine (HPl.out _ hbw).mono ?_
 rintro e w6 ⟨rfl,hb1⟩
 replace hb:=hb.trans (hb1.mono hb.size)
 replace hbw:=hbw.trans (hb1.mono hbw.size)
 clear hb1
 go_wp2_with fail
 refine hK.out _ _ ?_ (fun hHeld=>?_)
 ·exact ⟨(HM.out _ hbw).2.1,(HM.out _ hbw).1,(HX.out _ hb).2.1⟩
 clear hK K
 (try simp only [Act.put,pA,pB,pC])
 refine run_in [9,10,11,12,13] ?_
 iterate 5 (refine run_e rfl (by kernel_rfl) (by rfl) (fun _ _ _ _ h=>h) (by assumption) ?_;apply Exists.intro;refine And.intro (fun w hSw=>?_) ?_;(focus (try dsimp only at hSw);go_simp;(try with_reducible rfl));(try simp only [Act.put,pA,pB,pC]))
 refine run_out ?_
 refine wpAnyH_done (by kernel_rfl) ?_ _
 have hz6:=(HX.out _ hb).2.2
 have hq6:=setRow_heap w6 (w.heap.size + 2) _ #[.int .i64 0,.int .i64 0,.int .i64 0,.string ⟨#[]⟩,.string ⟨#[]⟩,.int .i64 0,.slice none 0 0,.string ⟨#[]⟩,.int .i64 0] _ _ hz6
 have hbq:=hbw.trans ((touch_setRow w6 (w.heap.size + 2) #[.int .i64 0,.int .i64 0,.int .i64 0,.string ⟨#[]⟩,.string ⟨#[]⟩,.int .i64 0,.slice none 0 0,.string ⟨#[]⟩,.int .i64 0]).below (fun q e=>by omega) hbw.size)
 have HZ:=Lib.hid hz6
 have HF:=Lib.hid (And.intro (run_loadVar_mid (P:=Tryz.prog) _ (w.heap.size + 2) 0 24 [.int .i64 0,.int .i64 0,.int .i64 0,.string ⟨#[]⟩,.string ⟨#[]⟩,.int .i64 0,.slice none 0 0,.string ⟨#[]⟩,.int .i64 0] _ (row_rng hq6) Tryz.underlying24 rfl hsz9) hbq)
 clear hz6 hq6 hbq
 go_wp2_with (first
  | (refine wpList_store_row rfl 24 (.tmp 6) (.tmp 36) rfl (w.heap.size + 2) #[.int .i64 0,.int .i64 0,.int .i64 0,.string ⟨#[]⟩,.string ⟨#[]⟩,.int .i64 0,.slice none 0 0,.string ⟨#[]⟩,.int .i64 0] rfl rfl 24 _ HZ.out hsz9 rfl zoneA ?_))
 (try simp only [Exit.inBlock,Exit.then])
 obtain ⟨hl6,hbp⟩:=HF.out
 refine bodyPost_ret (v:=.tuple #[.agg #[.int .i64 0,.int .i64 0,.int .i64 0,.string ⟨#[]⟩,.string ⟨#[]⟩,.int .i64 0,.slice none 0 0,.string ⟨#[]⟩,.int .i64 0],.bool false,.int .i64 0]) ?_ rfl ⟨rfl,hbp⟩
 have hA:∀ (a:Addr) (w:World),(asAddr (.pointer (some a))).run Tryz.prog w = .ok a w:=fun _ _=>rfl
 rw [results_c2 rfl]
 simp [hA,hl6,Result.andThen]
theorem rget_y (h:RfAt w B y lv T) (hT:T.length ≤ 1000) (a:GArg w B r k ur0 uk) (hk:validT k = true) {i:Nat} (hr:refR T r = some i) (ht:T[i]? = some t) (hl:t.rows.length ≤ 1000000) (hnd:∀ r ∈ t.rows,nodesT r.k ≤ 100000000) (hyes:hasR (cmpH t.hs) (absRR t.rows) k = true) {e:RRw N} (he:t.rows[posR (cmpH t.hs) (absRR t.rows) k]? = some e) :
 Calls Tryz.prog 58 #[.pointer (some ⟨y,0,none⟩),aggV r.f ur0,aggV k.f uk] w fun e' w'=>e' = .returned (.tuple #[aggV e.v.f e.uv,.bool true,.int .i64 0])∧Below w.heap.size w w':=by
 have hB:=h.blt
 have HVk:=Lib.hid (fun (W:World) (hW:Below w.heap.size w W)=>RValid W B uk k (Nat.le_trans hB hW.size) (a.ik.below hW hB) (by have:=a.nk;omega))
 have HAt:=Lib.hid (fun (W:World) (hW:Below w.heap.size w W)=>at53 (h.below hW) hT (Nat.le_trans hB hW.size) (a.ir.below hW hB))
 obtain ⟨gl,cl,hlv,hil,hgl,hyg,_,hm⟩:=h.main ht
 have HM:=Lib.hid hm
 have HPl:=Lib.hid (fun (W:World) (hW:Below w.heap.size w W)=>place59 t (Nat.le_trans hB hW.size) ((h.below hW).tabs t (List.mem_of_getElem? ht)) hl hnd (Nat.le_trans hB hW.size) (a.ik.below hW hB) a.nk)
 rw [hyes] at HPl
 have hta:=h.tabs t (List.mem_of_getElem? ht)
 generalize posR (cmpH t.hs) (absRR t.rows) k = px at *
 have hpl:px < t.rows.length:=(List.getElem?_eq_some_iff.1 he).1
 obtain ⟨gv,cv0,hvr⟩:∃ gv cv,t.vr = .slice (some ⟨gv,0,none⟩) t.rows.length cv:=by
  rcases hta.rows.2 with ⟨_,h0⟩ | ⟨g,cap,cur,e,_⟩
  ·omega
  ·exact ⟨g,cap,e⟩
 obtain ⟨g9,o9,e9,hgv,hrv⟩:=rec_rng (by have:=hta.rows.row hta.enc;rwa [hvr] at this) hpl
 simp only [Option.some.injEq,Addr.mk.injEq,and_true] at e9
 obtain ⟨rfl,rfl⟩:=e9
 have hee:t.rows[px] = e:=by rw [List.getElem?_eq_getElem hpl] at he;exact Option.some.inj he
 rw [hee,Nat.zero_add] at hrv
 have hrv9:=rng_suf (a:=nineL e.k.f e.uk) hrv rfl
 have hev:=(hta.irow e (List.mem_of_getElem? he)).2
 obtain ⟨pv,cv,eev,_,_⟩:=hev.shape
 rw [eev] at hrv9 ⊢
 have HEv:=Lib.hid (fun (W:World) (hW:Below w.heap.size w W)=>rng_same hrv9 (hW.block gv hgv))
 have r5:(px:Int) < (t.rows.length:Int):=by omega
 clear hyes he hee hrv hrv9 hev eev hta hgv
 generalize e.v.items.length = nv at *
 generalize e.v.f = fv at *
 obtain ⟨vk,vi,vg,vn,vf,va,vb,vz⟩:=fv
 unfold nineL at HEv
 generalize hrl:t.rows.length = nrw at *
 obtain ⟨pr,cr,e1,_,_⟩:=a.ir.shape
 obtain ⟨pk,ck,e2,_,_⟩:=a.ik.shape
 rw [hk] at HVk
 rw [hr] at HAt
 unfold optI at HAt
 dsimp only at HAt
 rw [e1] at HAt ⊢
 rw [e2] at HVk HPl ⊢
 unfold rtL nineL at HM HPl
 rw [hlv] at HM
 clear h hT a hB e1 e2 hnd hr ht hlv hk hm hl
 generalize T.length = nT at *
 obtain ⟨tref,town,ur,uo,hs,vr,rows⟩:=t
 dsimp only at *
 subst hvr
 generalize tref.f = fe at *
 generalize town.f = fo at *
 obtain ⟨ek,ei,eg,en,ef,ea,eb,ez⟩:=fe
 obtain ⟨ok,oi,og,on,of,oa,ob,oz⟩:=fo
 generalize r.items.length = nr at *
 generalize k.items.length = nk at *
 generalize hrf:r.f = fr at *
 generalize hkf:k.f = fk at *
 obtain ⟨rk,ri,rg,rn,rf,ra,rb,rz⟩:=fr
 obtain ⟨kk,ki,kg,kn,kf,ka,kb,kz⟩:=fk
 unfold aggV BPost PlP at *
 dsimp only at *
 simp only [List.cons_append,List.nil_append] at HM HPl
 have hsz20:(Tryz.prog.info? 53).map (·.size) = some 20:=by kernel_rfl
 have hsz9:(Tryz.prog.info? 24).map (·.size) = some 9:=by kernel_rfl
 obtain ⟨hb0,_,hz5,hz6,hz7⟩:=three_heap w (.cells #[.int .i64 rk,.int .i64 ri,.int .i64 rg,.string rn,.string rf,.int .i64 ra,.slice pr nr cr,.string rb,.int .i64 rz] 24) (.cells #[.int .i64 kk,.int .i64 ki,.int .i64 kg,.string kn,.string kf,.int .i64 ka,.slice pk nk ck,.string kb,.int .i64 kz] 24) (.cells #[.int .i64 0,.int .i64 0,.int .i64 0,.string ⟨#[]⟩,.string ⟨#[]⟩,.int .i64 0,.slice none 0 0,.string ⟨#[]⟩,.int .i64 0] 24)
 have hl5:=(Array.getElem?_eq_some_iff.1 hz5).1
 have hl6:=(Array.getElem?_eq_some_iff.1 hz6).1
 have hl7:=(Array.getElem?_eq_some_iff.1 hz7).1
 go_enter Tryz.func58,Tryz.ntmps58
 go_upto_region 1 with (fail)
 generalize (((w.alloc (.cells #[.int .i64 rk,.int .i64 ri,.int .i64 rg,.string rn,.string rf,.int .i64 ra,.slice pr nr cr,.string rb,.int .i64 rz] 24)).alloc (.cells #[.int .i64 kk,.int .i64 ki,.int .i64 kg,.string kn,.string kf,.int .i64 ka,.slice pk nk ck,.string kb,.int .i64 kz] 24)).alloc (.cells #[.int .i64 0,.int .i64 0,.int .i64 0,.string ⟨#[]⟩,.string ⟨#[]⟩,.int .i64 0,.slice none 0 0,.string ⟨#[]⟩,.int .i64 0] 24)) = W1 at *
 have HX:=Lib.hid (fun W (hW:Below W1.heap.size W1 W)=>(And.intro (row_rng (x:=[.int .i64 rk,.int .i64 ri,.int .i64 rg,.string rn,.string rf,.int .i64 ra,.slice pr nr cr,.string rb,.int .i64 rz]) ((hW.block _ hl5).trans hz5)) (And.intro (row_rng (x:=[.int .i64 kk,.int .i64 ki,.int .i64 kg,.string kn,.string kf,.int .i64 ka,.slice pk nk ck,.string kb,.int .i64 kz]) ((hW.block _ hl6).trans hz6)) ((hW.block _ hl7).trans hz7))))
 have hb:=Below.refl W1.heap.size W1
 have HB0:=Lib.hid hb0
 have hbw:=hb0
 clear hz5 hz6 hz7 hl5 hl6 hl7 hb0
 have HK1:=Lib.hid (HX.out _ hb).2.1
 go_wp2_with (first
  | (refine wpList_load_mid rfl 24 (.tmp 5) rfl (w.heap.size + 1) 0 rfl [.int .i64 kk,.int .i64 ki,.int .i64 kg,.string kn,.string kf,.int .i64 ka,.slice pk nk ck,.string kb,.int .i64 kz] _ HK1.out Tryz.underlying24 rfl hsz9 ?_))
 refine (HVk.out _ hbw).mono ?_
 rintro e w2 ⟨rfl,hb1⟩
 replace hb:=hb.trans (hb1.mono hb.size)
 replace hbw:=hbw.trans (hb1.mono hbw.size)
 clear hb1 HVk HK1
 have HR1:=Lib.hid (HX.out _ hb).1
 go_wp2_with (first
  | (refine wpList_load_mid rfl 24 (.tmp 4) rfl w.heap.size 0 rfl [.int .i64 rk,.int .i64 ri,.int .i64 rg,.string rn,.string rf,.int .i64 ra,.slice pr nr cr,.string rb,.int .i64 rz] _ HR1.out Tryz.underlying24 rfl hsz9 ?_))
 refine (HAt.out _ hbw).mono ?_
 rintro e w4 ⟨rfl,hb1⟩
 replace hb:=hb.trans (hb1.mono hb.size)
 replace hbw:=hbw.trans (hb1.mono hbw.size)
 clear hb1 HAt HR1
 have r1:(i:Int) < (nT:Int):=by omega
 have r2:¬ ((i:Int) < 0):=by omega
 go_upto_region 6 with (fail)
 replace hb:=hb.trans ((belowD (Below.refl w4.heap.size w4)).mono hb.size)
 replace hbw:=hbw.trans ((belowD (Below.refl w4.heap.size w4)).mono hbw.size)
 refine wp_region_held_drew (S:=(fun w'=>w'.cell? ⟨y,0,none⟩ = some (.slice (some ⟨gl,0,none⟩) nT cl)∧w'.rangeAt gl (i * 20) [.int .i64 ek,.int .i64 ei,.int .i64 eg,.string en,.string ef,.int .i64 ea,ur,.string eb,.int .i64 ez,.int .i64 ok,.int .i64 oi,.int .i64 og,.string on,.string of,.int .i64 oa,uo,.string ob,.int .i64 oz,.bool hs,.slice (some ⟨gv,0,none⟩) nrw cv0]∧w'.rangeAt (w.heap.size + 1) 0 [.int .i64 kk,.int .i64 ki,.int .i64 kg,.string kn,.string kf,.int .i64 ka,.slice pk nk ck,.string kb,.int .i64 kz])) (by kernel_rfl) ?_ (fun hHeld=>?_)
 ·exact ⟨(HM.out _ hbw).2.1,(HM.out _ hbw).1,(HX.out _ hb).2.1⟩
 generalize w4.drew = wd at *
 refine run_in [0,1,2,3,4,5,6,7] ?_
 iterate 6 (refine run_e rfl (by kernel_rfl) (by rfl) (fun _ _ _ _ h=>h) (by assumption) ?_;apply Exists.intro;refine And.intro (fun w hSw=>?_) ?_;(focus (try dsimp only at hSw);go_simp;(try with_reducible rfl));(try simp only [Act.put,pA,pB,pC]))
 refine run_r rfl (by kernel_rfl) (fun _ _ _ _ h=>h) (by assumption) (yieldsIf_load_mid (by rfl) 53 (.tmp 28) rfl gl (i * 20) rfl [.int .i64 ek,.int .i64 ei,.int .i64 eg,.string en,.string ef,.int .i64 ea,ur,.string eb,.int .i64 ez,.int .i64 ok,.int .i64 oi,.int .i64 og,.string on,.string of,.int .i64 oa,uo,.string ob,.int .i64 oz,.bool hs,.slice (some ⟨gv,0,none⟩) nrw cv0] _ (fun w hs=>hs.2.1) Tryz.underlying53 rfl hsz20) ?_
 (try simp only [Act.put,pA,pB,pC])
 refine run_r rfl (by kernel_rfl) (fun _ _ _ _ h=>h) (by assumption) (yieldsIf_load_mid (by rfl) 24 (.tmp 5) rfl (w.heap.size + 1) 0 rfl [.int .i64 kk,.int .i64 ki,.int .i64 kg,.string kn,.string kf,.int .i64 ka,.slice pk nk ck,.string kb,.int .i64 kz] _ (fun w hs=>hs.2.2) Tryz.underlying24 rfl hsz9) ?_
 (try simp only [Act.put,pA,pB,pC])
 refine run_out ?_
 refine wpAnyH_ready (rs:=[8]) (by kernel_rfl) (by simp) ?_
 refine (readyR rfl (fun K hK=>?_) AllReadyH.nil)
 go_simp
 refine (HPl.out _ hbw).mono ?_
 rintro e w6 ⟨rfl,hb1⟩
 replace hb:=hb.trans (hb1.mono hb.size)
 replace hbw:=hbw.trans (hb1.mono hbw.size)
 clear hb1
 go_wp2_with fail
 refine hK.out _ _ ?_ (fun hHeld=>?_)
 ·exact ⟨(HM.out _ hbw).2.1,(HM.out _ hbw).1,(HX.out _ hb).2.1⟩
 clear hK K
 (try simp only [Act.put,pA,pB,pC])
 refine run_in [9,10,11,12,13] ?_
 iterate 5 (refine run_e rfl (by kernel_rfl) (by rfl) (fun _ _ _ _ h=>h) (by assumption) ?_;apply Exists.intro;refine And.intro (fun w hSw=>?_) ?_;(focus (try dsimp only at hSw);go_simp;(try with_reducible rfl));(try simp only [Act.put,pA,pB,pC]))
 refine run_out ?_
 refine wpAnyH_done (by kernel_rfl) ?_ _
 have k0:=(HM.out _ hbw).2.1
 have k19:w6.cell? ⟨gl,i * 20 + 19,none⟩ = some (.slice (some ⟨gv,0,none⟩) nrw cv0):=(HM.out _ hbw).1 19 _ rfl
 have HVr:=Lib.hid (HEv.out _ hbw)
 have hoV:(#[.int .i64 vk,.int .i64 vi,.int .i64 vg,.string vn,.string vf,.int .i64 va,.slice pv nv cv,.string vb,.int .i64 vz]:Array Value).all (·.oneCell') = true:=all_oneCell_toArray (nineL_one (f:=⟨vk,vi,vg,vn,vf,va,vb,vz⟩) (u:=.slice pv nv cv) rfl)
 have hz6:=(HX.out _ hb).2.2
 have hq6:=setRow_heap w6 (w.heap.size + 2) _ #[.int .i64 vk,.int .i64 vi,.int .i64 vg,.string vn,.string vf,.int .i64 va,.slice pv nv cv,.string vb,.int .i64 vz] _ _ hz6
 have hbq:=hbw.trans ((touch_setRow w6 (w.heap.size + 2) #[.int .i64 vk,.int .i64 vi,.int .i64 vg,.string vn,.string vf,.int .i64 va,.slice pv nv cv,.string vb,.int .i64 vz]).below (fun q e=>by omega) hbw.size)
 have HZ:=Lib.hid hz6
 have HF:=Lib.hid (And.intro (run_loadVar_mid (P:=Tryz.prog) _ (w.heap.size + 2) 0 24 [.int .i64 vk,.int .i64 vi,.int .i64 vg,.string vn,.string vf,.int .i64 va,.slice pv nv cv,.string vb,.int .i64 vz] _ (row_rng hq6) Tryz.underlying24 rfl hsz9) hbq)
 clear hz6 hq6 hbq
 go_wp2_with (first
  | (refine wpList_store_row rfl 24 (.tmp 6) (.tmp 48) rfl (w.heap.size + 2) #[.int .i64 vk,.int .i64 vi,.int .i64 vg,.string vn,.string vf,.int .i64 va,.slice pv nv cv,.string vb,.int .i64 vz] rfl rfl 24 _ HZ.out hsz9 rfl hoV ?_)
  | (refine wpList_load_mid rfl 24 (.tmp 47) rfl gv (px * 18 + 9) rfl [.int .i64 vk,.int .i64 vi,.int .i64 vg,.string vn,.string vf,.int .i64 va,.slice pv nv cv,.string vb,.int .i64 vz] _ HVr.out Tryz.underlying24 rfl hsz9 ?_))
 (try simp only [Exit.inBlock,Exit.then])
 obtain ⟨hl6,hbp⟩:=HF.out
 refine bodyPost_ret (v:=.tuple #[.agg #[.int .i64 vk,.int .i64 vi,.int .i64 vg,.string vn,.string vf,.int .i64 va,.slice pv nv cv,.string vb,.int .i64 vz],.bool true,.int .i64 0]) ?_ rfl ⟨rfl,hbp⟩
 have hA:∀ (a:Addr) (w:World),(asAddr (.pointer (some a))).run Tryz.prog w = .ok a w:=fun _ _=>rfl
 rw [results_c2 rfl]
 simp [hA,hl6,Result.andThen]
end
theorem run_sliceAt {ty e:TypeId} (hu:Tryz.prog.underlying ty = some (.slice e)) (v:Value) (lo hi mx:Option Value) (w:World):(Instr.sliceAt ty v lo hi mx).run Tryz.prog w = (Instr.slice ty v lo hi mx).run Tryz.prog w:=by
 unfold Instr.sliceAt
 rw [Sem.run_bind,run_underlying hu]
 rfl
theorem yields_slice {ops:Array Oper} {S:World→Prop} {op:Oper} {a:Act} (hw:Region.wanted op (yielded ops a.tmps) = true) {ty e:TypeId} (hu:Tryz.prog.underlying ty = some (.slice e)) (x:Operand) (lo hi:Option Operand) (ho:op.op = .slice ty x lo hi none) {v r:Value} {lv hv:Option Value} (hx:a.eval x = v) (hlo:lo.map a.eval = lv) (hhi:hi.map a.eval = hv)
 (hr:∀ W,(Instr.slice ty v lv hv none).run Tryz.prog W = .ok r W):YieldsIf Tryz.prog ops S op r a :=
 .inl ⟨hw,fun w _=>by
  unfold execOp
  simp only [ho,hx,hlo,hhi,Option.map_none,Sem.run_bind,run_sliceAt hu,hr w,Result.andThen_ok,Sem.run_pure]⟩
theorem step_load_run {w:World} {ops:Array Oper} {o:Oper} {a:Act} {K:Act→World→Prop} {Q:Exit→Act→World→Prop} {E:Prop} (hw:Region.wanted o (yielded ops a.tmps) = true) (ty:TypeId) (x:Operand)
 (ho:o.op = .load ty x) {p:Addr} {v:Value} (hx:a.eval x = .pointer (some p)) (hr:(loadVar ty p).run Tryz.prog w = .ok v w)
 (hK:K (a.put o.dst v) w):if Region.wanted o (yielded ops a.tmps) = true then Oper.wp Tryz.prog o a w K Q else E:=by
 rw [if_pos hw]
 unfold Oper.wp execOp
 simp only [ho,hx,Instr.loadAt,Instr.sureAddr,Sem.run_bind,Sem.run_pure,Result.andThen_ok,hr]
 exact hK
section
variable {N:Nat} {w w':World} {B y:Nat} {lv:Value} {T:List (RTb N)} {t:RTb N} {r k:Tm (N + 1)} {ur0 uk:Value}
theorem rdel_n (a:GArg w B r k ur0 uk) {er:Int} (hG0:∀ W,Below w.heap.size w W→Calls Tryz.prog 58 #[.pointer (some ⟨y,0,none⟩),aggV r.f ur0,aggV k.f uk] W fun e w'=>e = .returned (.tuple #[.agg #[.int .i64 0,.int .i64 0,.int .i64 0,.string ⟨#[]⟩,.string ⟨#[]⟩,.int .i64 0,.slice none 0 0,.string ⟨#[]⟩,.int .i64 0],.bool false,.int .i64 er])∧Below W.heap.size W w') :
 Calls Tryz.prog 23 #[.pointer (some ⟨y,0,none⟩),aggV r.f ur0,aggV k.f uk] w fun e w'=>e = .returned (.tuple #[.bool false,.int .i64 er])∧Below w.heap.size w w':=by
 have HG:=Lib.hid hG0
 clear hG0
 obtain ⟨pr,cr,e1,_,_⟩:=a.ir.shape
 obtain ⟨pk,ck,e2,_,_⟩:=a.ik.shape
 rw [e1] at HG ⊢
 rw [e2] at HG ⊢
 clear a e1 e2
 generalize r.items.length = nr at *
 generalize k.items.length = nk at *
 generalize hrf:r.f = fr at *
 generalize hkf:k.f = fk at *
 obtain ⟨rk,ri,rg,rn,rf,ra,rb,rz⟩:=fr
 obtain ⟨kk,ki,kg,kn,kf,ka,kb,kz⟩:=fk
 unfold aggV at *
 dsimp only at *
 have hsz9:(Tryz.prog.info? 24).map (·.size) = some 9:=by kernel_rfl
 obtain ⟨hb0,hz5,hz6⟩:=two_boxes w (.cells #[.int .i64 rk,.int .i64 ri,.int .i64 rg,.string rn,.string rf,.int .i64 ra,.slice pr nr cr,.string rb,.int .i64 rz] 24) (.cells #[.int .i64 kk,.int .i64 ki,.int .i64 kg,.string kn,.string kf,.int .i64 ka,.slice pk nk ck,.string kb,.int .i64 kz] 24)
 have hl5:=(Array.getElem?_eq_some_iff.1 hz5).1
 have hl6:=(Array.getElem?_eq_some_iff.1 hz6).1
 go_enter Tryz.func23,Tryz.ntmps23
 go_upto_region 1 with (fail)
 generalize ((w.alloc (.cells #[.int .i64 rk,.int .i64 ri,.int .i64 rg,.string rn,.string rf,.int .i64 ra,.slice pr nr cr,.string rb,.int .i64 rz] 24)).alloc (.cells #[.int .i64 kk,.int .i64 ki,.int .i64 kg,.string kn,.string kf,.int .i64 ka,.slice pk nk ck,.string kb,.int .i64 kz] 24)) = W1 at *
 have HX:=Lib.hid (fun W (hW:Below W1.heap.size W1 W)=>(And.intro (row_rng (x:=[.int .i64 rk,.int .i64 ri,.int .i64 rg,.string rn,.string rf,.int .i64 ra,.slice pr nr cr,.string rb,.int .i64 rz]) ((hW.block _ hl5).trans hz5)) (row_rng (x:=[.int .i64 kk,.int .i64 ki,.int .i64 kg,.string kn,.string kf,.int .i64 ka,.slice pk nk ck,.string kb,.int .i64 kz]) ((hW.block _ hl6).trans hz6))))
 have hb:=Below.refl W1.heap.size W1
 have hbw:=hb0
 clear hz5 hz6 hl5 hl6 hb0
 have HK1:=Lib.hid (HX.out _ hb)
 go_wp2_with (first
  | (refine wpList_load_mid rfl 24 (.tmp 4) rfl w.heap.size 0 rfl [.int .i64 rk,.int .i64 ri,.int .i64 rg,.string rn,.string rf,.int .i64 ra,.slice pr nr cr,.string rb,.int .i64 rz] _ HK1.out.1 Tryz.underlying24 rfl hsz9 ?_)
  | (refine wpList_load_mid rfl 24 (.tmp 5) rfl (w.heap.size + 1) 0 rfl [.int .i64 kk,.int .i64 ki,.int .i64 kg,.string kn,.string kf,.int .i64 ka,.slice pk nk ck,.string kb,.int .i64 kz] _ HK1.out.2 Tryz.underlying24 rfl hsz9 ?_))
 refine (HG.out _ hbw).mono ?_
 rintro e' w2 ⟨rfl,hb1⟩
 replace hb:=hb.trans (hb1.mono hb.size)
 replace hbw:=hbw.trans (hb1.mono hbw.size)
 clear hb1 HG HK1
 have hba:=belowA (Below.refl w2.heap.size w2) (.cells #[.int .i64 0,.int .i64 0,.int .i64 0,.string ⟨#[]⟩,.string ⟨#[]⟩,.int .i64 0,.slice none 0 0,.string ⟨#[]⟩,.int .i64 0] 24) (Nat.le_refl _)
 have HZa:=Lib.hid (alloc_new w2 (.cells #[.int .i64 0,.int .i64 0,.int .i64 0,.string ⟨#[]⟩,.string ⟨#[]⟩,.int .i64 0,.slice none 0 0,.string ⟨#[]⟩,.int .i64 0] 24))
 have hbs:=hba.trans ((touch_setRow (w2.alloc (.cells #[.int .i64 0,.int .i64 0,.int .i64 0,.string ⟨#[]⟩,.string ⟨#[]⟩,.int .i64 0,.slice none 0 0,.string ⟨#[]⟩,.int .i64 0] 24)) w2.heap.size #[.int .i64 0,.int .i64 0,.int .i64 0,.string ⟨#[]⟩,.string ⟨#[]⟩,.int .i64 0,.slice none 0 0,.string ⟨#[]⟩,.int .i64 0]).below (fun q e=>Nat.le_of_eq e.symm) hba.size)
 replace hb:=hb.trans (hbs.mono hb.size)
 replace hbw:=hbw.trans (hbs.mono hbw.size)
 clear hba hbs
 go_upto_region 2 with (first
  | (refine wpList_store_row rfl 24 (.tmp 8) (.tmp 19) rfl w2.heap.size #[.int .i64 0,.int .i64 0,.int .i64 0,.string ⟨#[]⟩,.string ⟨#[]⟩,.int .i64 0,.slice none 0 0,.string ⟨#[]⟩,.int .i64 0] rfl rfl 24 _ HZa.out hsz9 rfl zoneA ?_))
 clear HZa
 generalize (w2.alloc (.cells #[.int .i64 0,.int .i64 0,.int .i64 0,.string ⟨#[]⟩,.string ⟨#[]⟩,.int .i64 0,.slice none 0 0,.string ⟨#[]⟩,.int .i64 0] 24)).setRow w2.heap.size #[.int .i64 0,.int .i64 0,.int .i64 0,.string ⟨#[]⟩,.string ⟨#[]⟩,.int .i64 0,.slice none 0 0,.string ⟨#[]⟩,.int .i64 0] = w3 at *
 go_wp2_with fail
 go_ret2
 exact ⟨rfl,hbw⟩
theorem rdel_y (h:RfAt w B y lv T) (hT:T.length ≤ 1000) (a:GArg w B r k ur0 uk) (hk:validT k = true) {i:Nat} (hr:refR T r = some i) (ht:T[i]? = some t) (hl:t.rows.length ≤ 1000000) (hnd:∀ r ∈ t.rows,nodesT r.k ≤ 100000000) (hyes:hasR (cmpH t.hs) (absRR t.rows) k = true) :
 Calls Tryz.prog 23 #[.pointer (some ⟨y,0,none⟩),aggV r.f ur0,aggV k.f uk] w fun e w'=>e = .returned (.tuple #[.bool true,.int .i64 0])∧PutV B y lv T i t (delR (cmpH t.hs) (absRR t.rows) k) w w':=by
 have hB:=h.blt
 obtain ⟨gl,cl,hlv,hil,hgl,hyg,_,hm⟩:=h.main ht
 have HM:=Lib.hid hm
 have hta:=h.tabs t (List.mem_of_getElem? ht)
 have HAt:=Lib.hid (fun (W:World) (hW:Below w.heap.size w W)=>at53 (h.below hW) hT (Nat.le_trans hB hW.size) (a.ir.below hW hB))
 have HPl:=Lib.hid (fun (W:World) (hW:Below w.heap.size w W)=>place59 t (Nat.le_trans hB hW.size) ((h.below hW).tabs t (List.mem_of_getElem? ht)) hl hnd (Nat.le_trans hB hW.size) (a.ik.below hW hB) a.nk)
 obtain ⟨hpl0,_⟩:=hasR_some hyes
 have hal:(absRR t.rows).length = t.rows.length:=by unfold absRR;rw [List.length_map]
 rw [hal] at hpl0
 have hdel:delR (cmpH t.hs) (absRR t.rows) k = absRR (([] ++ t.rows.take (posR (cmpH t.hs) (absRR t.rows) k)) ++ t.rows.drop (posR (cmpH t.hs) (absRR t.rows) k + 1)):=by
  unfold delR
  rw [hyes,if_pos rfl]
  unfold absRR
  simp only [List.nil_append,List.map_append,List.map_take,List.map_drop]
 have hat:=List.getElem?_eq_getElem hpl0
 have HG:=Lib.hid (fun (W:World) (hW:Below w.heap.size w W)=>rget_y (h.below hW) hT ⟨a.ir.below hW hB,a.ik.below hW hB,a.nk⟩ hk hr ht hl hnd hyes hat)
 have hev:=(hta.irow _ (List.mem_of_getElem? hat)).2
 obtain ⟨pv,cv,eev,_,_⟩:=hev.shape
 rw [eev] at HG
 rw [hyes] at HPl
 generalize posR (cmpH t.hs) (absRR t.rows) k = px at *
 generalize hrl:(t.rows[px]).v = vt at *
 clear hat hev eev hrl
 generalize vt.items.length = nv at *
 generalize vt.f = fv at *
 obtain ⟨vk,vi,vg,vn,vf,va,vb,vz⟩:=fv
 have hE:=hta.enc
 have HUpd:=Lib.hid (fun (W:World) (hW:Below w.heap.size w W) (v':Value) (rows':List (RRw N)) (ho:RecOwn rrL 55 18 W w.heap.size v' rows') (he:rows' = ([] ++ t.rows.take px) ++ t.rows.drop (px + 1))=>(show PutV B y lv T i t (delR (cmpH t.hs) (absRR t.rows) k) w (W.setCell ⟨gl,i * 20 + 19,none⟩ v') from by
  obtain ⟨q1,q2⟩:=RfAt.upd h hlv ht hW ho (fun r hr=>by
   rw [he,List.nil_append] at hr
   have ho:∀ r ∈ t.rows,ItemsAt W B N r.uk r.k.items∧ItemsAt W B N r.uv r.v.items:=fun r hr=>⟨(hta.irow r hr).1.below hW hB,(hta.irow r hr).2.below hW hB⟩
   rcases List.mem_append.1 hr with hr | hr
   ·exact ho r (List.mem_of_mem_take hr)
   ·exact ho r (List.mem_of_mem_drop hr))
  exact ⟨v',rows',by rw [he];exact hdel.symm,q1,q2⟩))
 have HLow:=Lib.hid (fun (j:Nat) (hj:j ≤ t.rows.length) (W:World) (hW:Below w.heap.size w W)=>low_own49 hE ((h.below hW).tabs t (List.mem_of_getElem? ht)).rows hj)
 have HHigh:=Lib.hid (fun (j:Nat) (hj:j ≤ t.rows.length) (W:World) (hW:Below w.heap.size w W)=>high_own49 hE ((h.below hW).tabs t (List.mem_of_getElem? ht)).rows hj)
 have HVlt:=Lib.hid (fun (q:Nat) (hq:t.vr.ownBlock = some q)=>(hta.rows.lt hq).2)
 have HET:=Lib.hid (fun (j:Nat)=>(hE.sub (fun x hx=>List.mem_of_mem_take hx):EncOK rrL 18 (t.rows.take j)))
 have HED:=Lib.hid (fun (j:Nat)=>(hE.sub (fun x hx=>List.mem_of_mem_drop hx):EncOK rrL 18 (t.rows.drop j)))
 generalize delR (cmpH t.hs) (absRR t.rows) k = PR at *
 generalize hPV:PutV B y lv T i t PR w = PV at *
 obtain ⟨pr,cr,e1,_,_⟩:=a.ir.shape
 obtain ⟨pk,ck,e2,_,_⟩:=a.ik.shape
 rw [hr] at HAt
 unfold optI at HAt
 dsimp only at HAt
 rw [e1] at HAt HG ⊢
 rw [e2] at HPl HG ⊢
 unfold rtL nineL at HM HPl
 rw [hlv] at HM
 clear h hT a hB e1 e2 hnd hr ht hlv hk hm hta hE hal hdel hyes hPV
 generalize T.length = nT at *
 obtain ⟨tref,town,ur,uo,hs,vr,rows⟩:=t
 dsimp only at *
 generalize tref.f = fe at *
 generalize town.f = fo at *
 obtain ⟨ek,ei,eg,en,ef,ea,eb,ez⟩:=fe
 obtain ⟨ok,oi,og,on,of,oa,ob,oz⟩:=fo
 generalize r.items.length = nr at *
 generalize k.items.length = nk at *
 generalize hrf:r.f = fr at *
 generalize hkf:k.f = fk at *
 obtain ⟨rk,ri,rg,rn,rf,ra,rb,rz⟩:=fr
 obtain ⟨kk,ki,kg,kn,kf,ka,kb,kz⟩:=fk
 unfold aggV PlP at *
 dsimp only at *
 simp only [List.cons_append,List.nil_append] at HM HPl
 have hsz20:(Tryz.prog.info? 53).map (·.size) = some 20:=by kernel_rfl
 have hoV:(#[.int .i64 vk,.int .i64 vi,.int .i64 vg,.string vn,.string vf,.int .i64 va,.slice pv nv cv,.string vb,.int .i64 vz]:Array Value).all (·.oneCell') = true:=all_oneCell_toArray (nineL_one (f:=⟨vk,vi,vg,vn,vf,va,vb,vz⟩) (u:=.slice pv nv cv) rfl)
 have hsz9:(Tryz.prog.info? 24).map (·.size) = some 9:=by kernel_rfl
 obtain ⟨hb0,hz5,hz6⟩:=two_boxes w (.cells #[.int .i64 rk,.int .i64 ri,.int .i64 rg,.string rn,.string rf,.int .i64 ra,.slice pr nr cr,.string rb,.int .i64 rz] 24) (.cells #[.int .i64 kk,.int .i64 ki,.int .i64 kg,.string kn,.string kf,.int .i64 ka,.slice pk nk ck,.string kb,.int .i64 kz] 24)
 have hl5:=(Array.getElem?_eq_some_iff.1 hz5).1
 have hl6:=(Array.getElem?_eq_some_iff.1 hz6).1
 go_enter Tryz.func23,Tryz.ntmps23
 go_upto_region 1 with (fail)
 generalize ((w.alloc (.cells #[.int .i64 rk,.int .i64 ri,.int .i64 rg,.string rn,.string rf,.int .i64 ra,.slice pr nr cr,.string rb,.int .i64 rz] 24)).alloc (.cells #[.int .i64 kk,.int .i64 ki,.int .i64 kg,.string kn,.string kf,.int .i64 ka,.slice pk nk ck,.string kb,.int .i64 kz] 24)) = W1 at *
 have HX:=Lib.hid (fun W (hW:Below W1.heap.size W1 W)=>(And.intro (row_rng (x:=[.int .i64 rk,.int .i64 ri,.int .i64 rg,.string rn,.string rf,.int .i64 ra,.slice pr nr cr,.string rb,.int .i64 rz]) ((hW.block _ hl5).trans hz5)) (row_rng (x:=[.int .i64 kk,.int .i64 ki,.int .i64 kg,.string kn,.string kf,.int .i64 ka,.slice pk nk ck,.string kb,.int .i64 kz]) ((hW.block _ hl6).trans hz6))))
 have hb:=Below.refl W1.heap.size W1
 have hbw:=hb0
 clear hz5 hz6 hl5 hl6 hb0
 have HK1:=Lib.hid (HX.out _ hb)
 go_wp2_with (first
  | (refine wpList_load_mid rfl 24 (.tmp 4) rfl w.heap.size 0 rfl [.int .i64 rk,.int .i64 ri,.int .i64 rg,.string rn,.string rf,.int .i64 ra,.slice pr nr cr,.string rb,.int .i64 rz] _ HK1.out.1 Tryz.underlying24 rfl hsz9 ?_)
  | (refine wpList_load_mid rfl 24 (.tmp 5) rfl (w.heap.size + 1) 0 rfl [.int .i64 kk,.int .i64 ki,.int .i64 kg,.string kn,.string kf,.int .i64 ka,.slice pk nk ck,.string kb,.int .i64 kz] _ HK1.out.2 Tryz.underlying24 rfl hsz9 ?_))
 refine (HG.out _ hbw).mono ?_
 rintro e' w2 ⟨rfl,hb1⟩
 replace hb:=hb.trans (hb1.mono hb.size)
 replace hbw:=hbw.trans (hb1.mono hbw.size)
 clear hb1 HG HK1
 have hba:=belowA (Below.refl w2.heap.size w2) (.cells #[.int .i64 0,.int .i64 0,.int .i64 0,.string ⟨#[]⟩,.string ⟨#[]⟩,.int .i64 0,.slice none 0 0,.string ⟨#[]⟩,.int .i64 0] 24) (Nat.le_refl _)
 have HZa:=Lib.hid (alloc_new w2 (.cells #[.int .i64 0,.int .i64 0,.int .i64 0,.string ⟨#[]⟩,.string ⟨#[]⟩,.int .i64 0,.slice none 0 0,.string ⟨#[]⟩,.int .i64 0] 24))
 have hbs:=hba.trans ((touch_setRow (w2.alloc (.cells #[.int .i64 0,.int .i64 0,.int .i64 0,.string ⟨#[]⟩,.string ⟨#[]⟩,.int .i64 0,.slice none 0 0,.string ⟨#[]⟩,.int .i64 0] 24)) w2.heap.size #[.int .i64 vk,.int .i64 vi,.int .i64 vg,.string vn,.string vf,.int .i64 va,.slice pv nv cv,.string vb,.int .i64 vz]).below (fun q e=>Nat.le_of_eq e.symm) hba.size)
 replace hb:=hb.trans (hbs.mono hb.size)
 replace hbw:=hbw.trans (hbs.mono hbw.size)
 clear hba hbs
 go_upto_region 2 with (first
  | (refine wpList_store_row rfl 24 (.tmp 8) (.tmp 19) rfl w2.heap.size #[.int .i64 vk,.int .i64 vi,.int .i64 vg,.string vn,.string vf,.int .i64 va,.slice pv nv cv,.string vb,.int .i64 vz] rfl rfl 24 _ HZa.out hsz9 rfl hoV ?_))
 clear HZa
 generalize (w2.alloc (.cells #[.int .i64 0,.int .i64 0,.int .i64 0,.string ⟨#[]⟩,.string ⟨#[]⟩,.int .i64 0,.slice none 0 0,.string ⟨#[]⟩,.int .i64 0] 24)).setRow w2.heap.size #[.int .i64 vk,.int .i64 vi,.int .i64 vg,.string vn,.string vf,.int .i64 va,.slice pv nv cv,.string vb,.int .i64 vz] = w3 at *
 have HR1:=Lib.hid (HX.out _ hb).1
 go_wp2_with (first
  | (refine wpList_load_mid rfl 24 (.tmp 4) rfl w.heap.size 0 rfl [.int .i64 rk,.int .i64 ri,.int .i64 rg,.string rn,.string rf,.int .i64 ra,.slice pr nr cr,.string rb,.int .i64 rz] _ HR1.out Tryz.underlying24 rfl hsz9 ?_))
 refine (HAt.out _ hbw).mono ?_
 rintro e' w4 ⟨rfl,hb1⟩
 replace hb:=hb.trans (hb1.mono hb.size)
 replace hbw:=hbw.trans (hb1.mono hbw.size)
 clear hb1 HAt HR1
 have r1:(i:Int) < (nT:Int):=by omega
 have r2:¬ ((i:Int) < 0):=by omega
 go_upto_region 4 with (fail)
 replace hb:=hb.trans ((belowD (Below.refl w4.heap.size w4)).mono hb.size)
 replace hbw:=hbw.trans ((belowD (Below.refl w4.heap.size w4)).mono hbw.size)
 refine wp_region_held_drew (S:=(fun w'=>w'.cell? ⟨y,0,none⟩ = some (.slice (some ⟨gl,0,none⟩) nT cl)∧w'.rangeAt gl (i * 20) [.int .i64 ek,.int .i64 ei,.int .i64 eg,.string en,.string ef,.int .i64 ea,ur,.string eb,.int .i64 ez,.int .i64 ok,.int .i64 oi,.int .i64 og,.string on,.string of,.int .i64 oa,uo,.string ob,.int .i64 oz,.bool hs,vr]∧w'.rangeAt (w.heap.size + 1) 0 [.int .i64 kk,.int .i64 ki,.int .i64 kg,.string kn,.string kf,.int .i64 ka,.slice pk nk ck,.string kb,.int .i64 kz])) (by kernel_rfl) ?_ (fun hHeld=>?_)
 ·exact ⟨(HM.out _ hbw).2.1,(HM.out _ hbw).1,(HX.out _ hb).2⟩
 generalize w4.drew = wd at *
 refine run_in [0,1,2,3,4,5,6,7] ?_
 iterate 6 (refine run_e rfl (by kernel_rfl) (by rfl) (fun _ _ _ _ h=>h) (by assumption) ?_;apply Exists.intro;refine And.intro (fun w hSw=>?_) ?_;(focus (try dsimp only at hSw);go_simp;(try with_reducible rfl));(try simp only [Act.put,pA,pB,pC]))
 refine run_r rfl (by kernel_rfl) (fun _ _ _ _ h=>h) (by assumption) (yieldsIf_load_mid (by rfl) 53 (.tmp 32) rfl gl (i * 20) rfl [.int .i64 ek,.int .i64 ei,.int .i64 eg,.string en,.string ef,.int .i64 ea,ur,.string eb,.int .i64 ez,.int .i64 ok,.int .i64 oi,.int .i64 og,.string on,.string of,.int .i64 oa,uo,.string ob,.int .i64 oz,.bool hs,vr] _ (fun w hs=>hs.2.1) Tryz.underlying53 rfl hsz20) ?_
 (try simp only [Act.put,pA,pB,pC])
 refine run_r rfl (by kernel_rfl) (fun _ _ _ _ h=>h) (by assumption) (yieldsIf_load_mid (by rfl) 24 (.tmp 5) rfl (w.heap.size + 1) 0 rfl [.int .i64 kk,.int .i64 ki,.int .i64 kg,.string kn,.string kf,.int .i64 ka,.slice pk nk ck,.string kb,.int .i64 kz] _ (fun w hs=>hs.2.2) Tryz.underlying24 rfl hsz9) ?_
 (try simp only [Act.put,pA,pB,pC])
 refine run_out ?_
 refine wpAnyH_ready (rs:=[8]) (by kernel_rfl) (by simp) ?_
 refine (readyR rfl (fun K hK=>?_) AllReadyH.nil)
 go_simp
 refine (HPl.out _ hbw).mono ?_
 rintro e' w6 ⟨rfl,hb1⟩
 replace hb:=hb.trans (hb1.mono hb.size)
 replace hbw:=hbw.trans (hb1.mono hbw.size)
 clear hb1
 go_wp2_with fail
 refine hK.out _ _ ?_ (fun hHeld=>?_)
 ·exact ⟨(HM.out _ hbw).2.1,(HM.out _ hbw).1,(HX.out _ hb).2⟩
 clear hK K
 (try simp only [Act.put,pA,pB,pC])
 refine run_in [9,10,11,12,13] ?_
 iterate 5 (refine run_e rfl (by kernel_rfl) (by rfl) (fun _ _ _ _ h=>h) (by assumption) ?_;apply Exists.intro;refine And.intro (fun w hSw=>?_) ?_;(focus (try dsimp only at hSw);go_simp;(try with_reducible rfl));(try simp only [Act.put,pA,pB,pC]))
 refine run_out ?_
 refine wpAnyH_done (by kernel_rfl) ?_ _
 have hpw:IntKind.i64.wrap ((px:Int) + 1) = (px:Int) + 1:=IntWalk.i64_in _ (by omega)
 go_upto_region 5 with (fail)
 replace hbw:=hbw.trans ((belowD (Below.refl w6.heap.size w6)).mono hbw.size)
 clear hb
 obtain ⟨p1,c1,hrun1,hR1,hO1,_⟩:=HLow.out (px + 1) (by omega) w6.drew hbw
 rw [show ((px + 1:Nat):Int) = (px:Int) + 1 from by omega] at hrun1
 obtain ⟨RV,hRV⟩:∃ x,x = Value.slice p1 (rows.length - (px + 1)) c1:=⟨_,rfl⟩
 rw [← hRV] at hR1 hO1 hrun1
 obtain ⟨p3,c3,hrun3,hR3,hO3⟩:=HHigh.out px (by omega) w6.drew hbw
 obtain ⟨RH,hRH⟩:∃ x,x = Value.slice p3 px c3:=⟨_,rfl⟩
 rw [← hRH] at hR3 hO3 hrun3
 obtain ⟨v1,W7,hr1,hA1⟩:=run_append_rec el55 (RecOwn.nil 55 w6.drew w6.drew.heap.size) (Nat.le_refl _) 49 hR3 (HET.out px) (by simp;omega)
 have hb7:Below w6.drew.heap.size w6.drew W7:=hA1.belowB (Below.refl _ _) (Nat.le_refl _) (fun q hq=>by have h0:(Value.slice none 0 0).ownBlock = some q:=hq;simp [Value.ownBlock] at h0)
 have hrest7:=hR1.block (w':=W7) (fun q hq=>hb7.block q (by have:=HVlt.out q (hO1 q hq);have:=hbw.size;omega))
 obtain ⟨v2,W8,hr2,hA2⟩:=run_append_rec el55 hA1.own hb7.size 49 hrest7 (HED.out (px + 1)) (by simp;omega)
 have hb8:Below w6.drew.heap.size w6.drew W8:=hA2.belowB hb7 hb7.size (fun q hq=>(hA1.own.lt hq).1)
 have hbw7:=hbw.trans (hb7.mono hbw.size)
 have hbw8:=hbw.trans (hb8.mono hbw.size)
 have hone2:v2.oneCell' = true:=by obtain ⟨p,c,e,_,_⟩:=hA2.own.shape;rw [e];rfl
 have hP:=HUpd.out W8 hbw8 v2 _ (hA2.own.base (base':=w.heap.size) (fun q hq=>by have h1:=(hA2.own.lt hq).1;have h2:=hbw.size;omega)) rfl
 have k9:=(HM.out _ hbw).2.1
 have k10:=(HM.out _ hbw8).2.1
 have k7:=(HM.out _ hbw7).2.1
 have l9:w6.drew.cell? ⟨gl,i * 20 + 19,none⟩ = some vr:=(HM.out _ hbw).1 19 _ rfl
 have l7:W7.cell? ⟨gl,i * 20 + 19,none⟩ = some vr:=(HM.out _ hbw7).1 19 _ rfl
 have l8:W8.cell? ⟨gl,i * 20 + 19,none⟩ = some vr:=(HM.out _ hbw8).1 19 _ rfl
 have f8:=(HM.out _ hbw8).2.2 (i * 20 + 19)
 have k11:(W8.setCell ⟨gl,i * 20 + 19,none⟩ v2).cell? ⟨y,0,none⟩ = some (.slice (some ⟨gl,0,none⟩) nT cl):=(World.cell?_of_block (w:=W8) (a:=⟨y,0,none⟩) (Below.heap_setCell _ _ _ _ hyg)).trans k10
 have hst:=st49 W8 ⟨gl,i * 20 + 19,none⟩ vr v2 hone2 l8 f8
 have HP:=Lib.hid hP
 clear hP
 clear hR1 hR3 hO1 hO3 hA1 hA2 hb7 hb8 hrest7 HLow HHigh HUpd HM
 refine wp_region_held_drew (S:=(fun w'=>w'.cell? ⟨y,0,none⟩ = some (.slice (some ⟨gl,0,none⟩) nT cl))) (by kernel_rfl) ?_ (fun hHeld=>?_)
 ·exact k9
 generalize w6.drew = we at *
 refine run_in [0,1,2,3,4,5,6,7,8,9,10,11,13,16,17,18,19,20,21,22,24,25] ?_
 iterate 3 (refine run_e rfl (by kernel_rfl) (by rfl) (fun _ _ _ _ h=>h) (by assumption) ?_;apply Exists.intro;refine And.intro (fun w hSw=>?_) ?_;(focus (try dsimp only at hSw);go_simp;(try with_reducible rfl));(try simp only [Act.put,pA,pB,pC]))
 refine run_r rfl (by kernel_rfl) (fun _ _ _ _ h=>h) (by assumption) (yieldsB_cell (by rfl) 37 (.tmp 40) rfl y 0 rfl _ ld37 (fun w hs=>hs)) ?_
 (try simp only [Act.put,pA,pB,pC])
 iterate 4 (refine run_e rfl (by kernel_rfl) (by rfl) (fun _ _ _ _ h=>h) (by assumption) ?_;apply Exists.intro;refine And.intro (fun w hSw=>?_) ?_;(focus (try dsimp only at hSw);go_simp;(try with_reducible rfl));(try simp only [Act.put,pA,pB,pC]))
 refine run_r rfl (by kernel_rfl) (fun _ _ _ _ h=>h) (by assumption) (yieldsB_cell (by rfl) 37 (.tmp 45) rfl y 0 rfl _ ld37 (fun w hs=>hs)) ?_
 (try simp only [Act.put,pA,pB,pC])
 iterate 7 (refine run_e rfl (by kernel_rfl) (by rfl) (fun _ _ _ _ h=>h) (by assumption) ?_;apply Exists.intro;refine And.intro (fun w hSw=>?_) ?_;(focus (try dsimp only at hSw);go_simp;(try with_reducible rfl));(try simp only [Act.put,pA,pB,pC]))
 refine run_r rfl (by kernel_rfl) (fun _ _ _ _ h=>h) (by assumption) (yieldsB_cell (by rfl) 37 (.tmp 56) rfl y 0 rfl _ ld37 (fun w hs=>hs)) ?_
 (try simp only [Act.put,pA,pB,pC])
 iterate 5 (refine run_e rfl (by kernel_rfl) (by rfl) (fun _ _ _ _ h=>h) (by assumption) ?_;apply Exists.intro;refine And.intro (fun w hSw=>?_) ?_;(focus (try dsimp only at hSw);go_simp;(try with_reducible rfl));(try simp only [Act.put,pA,pB,pC]))
 refine run_out ?_
 refine wpAnyH_ready (rs:=[12,23]) (by kernel_rfl) (by simp) ?_
 refine (readyR rfl (fun K hK=>?_) (readyR rfl (fun K hK=>?_) AllReadyH.nil))
 ·refine step_load_run (by rfl) 49 (.tmp 49) rfl (p:=⟨gl,i * 20 + 19,none⟩) (v:=vr) rfl (ld49 _ _ _ ?_) ?_
  ·first | exact l9 | exact l7
  refine hK.out _ _ ?_ (fun hHeld=>?_)
  ·first | exact k11 | exact k10 | exact k7 | exact k9
  clear hK K
  (try simp only [Act.put,pA,pB,pC])
  refine run_in [14] ?_
  refine run_r rfl (by kernel_rfl) (fun _ _ _ _ h=>h) (by assumption) (yields_slice (by rfl) Tryz.underlying49 (.tmp 50) none (some (.tmp 51)) rfl rfl rfl rfl hrun3) ?_
  (try simp only [Act.put,pA,pB,pC])
  refine run_out ?_
  refine wpAnyH_ready (rs:=[15,23]) (by kernel_rfl) (by simp) ?_
  refine (readyR rfl (fun K hK=>?_) (readyR rfl (fun K hK=>?_) AllReadyH.nil))
  ·refine step_append_run (t:=49) (t':=49) (w':=W7) (v:=v1) rfl (.const (.slice none 0 0)) (.tmp 52) rfl rfl rfl ?_ ?_
   ·exact hr1
   refine hK.out _ _ ?_ (fun hHeld=>?_)
   ·first | exact k11 | exact k10 | exact k7 | exact k9
   clear hK K
   (try simp only [Act.put,pA,pB,pC])
   refine wpAnyH_ready (rs:=[23]) (by kernel_rfl) (by simp) ?_
   refine (readyR rfl (fun K hK=>?_) AllReadyH.nil)
   refine step_load_run (by rfl) 49 (.tmp 60) rfl (p:=⟨gl,i * 20 + 19,none⟩) (v:=vr) rfl (ld49 _ _ _ ?_) ?_
   ·first | exact l9 | exact l7
   refine hK.out _ _ ?_ (fun hHeld=>?_)
   ·first | exact k11 | exact k10 | exact k7 | exact k9
   clear hK K
   (try simp only [Act.put,pA,pB,pC])
   refine run_in [26] ?_
   refine run_r rfl (by kernel_rfl) (fun _ _ _ _ h=>h) (by assumption) (yields_slice (by rfl) Tryz.underlying49 (.tmp 61) (some (.tmp 63)) none rfl rfl rfl rfl hrun1) ?_
   (try simp only [Act.put,pA,pB,pC])
   refine run_out ?_
   refine wpAnyH_ready (rs:=[27]) (by kernel_rfl) (by simp) ?_
   refine (readyR rfl (fun K hK=>?_) AllReadyH.nil)
   refine step_append_run (t:=49) (t':=49) (w':=W8) (v:=v2) rfl (.tmp 53) (.tmp 64) rfl rfl rfl ?_ ?_
   ·exact hr2
   refine hK.out _ _ ?_ (fun hHeld=>?_)
   ·first | exact k11 | exact k10 | exact k7 | exact k9
   clear hK K
   (try simp only [Act.put,pA,pB,pC])
   refine run_in [28,29] ?_
   iterate 2 (refine run_e rfl (by kernel_rfl) (by rfl) (fun _ _ _ _ h=>h) (by assumption) ?_;apply Exists.intro;refine And.intro (fun w hSw=>?_) ?_;(focus (try dsimp only at hSw);go_simp;(try with_reducible rfl));(try simp only [Act.put,pA,pB,pC]))
   refine run_out ?_
   refine wpAnyH_ready (rs:=[30]) (by kernel_rfl) (by simp) ?_
   refine (readyR rfl (fun K hK=>?_) AllReadyH.nil)
   refine step_store_run (by rfl) 49 (.tmp 67) (.tmp 65) rfl (p:=⟨gl,i * 20 + 19,none⟩) (v:=v2) rfl rfl hst ?_
   refine hK.out _ _ ?_ (fun hHeld=>?_)
   ·first | exact k11 | exact k10 | exact k7 | exact k9
   clear hK K
   (try simp only [Act.put,pA,pB,pC])
   refine wpAnyH_done (by kernel_rfl) ?_ _
   go_wp2_with fail
   go_ret2
   exact ⟨rfl,HP.out⟩
  ·refine step_load_run (by rfl) 49 (.tmp 60) rfl (p:=⟨gl,i * 20 + 19,none⟩) (v:=vr) rfl (ld49 _ _ _ ?_) ?_
   ·first | exact l9 | exact l7
   refine hK.out _ _ ?_ (fun hHeld=>?_)
   ·first | exact k11 | exact k10 | exact k7 | exact k9
   clear hK K
   (try simp only [Act.put,pA,pB,pC])
   refine run_in [26] ?_
   refine run_r rfl (by kernel_rfl) (fun _ _ _ _ h=>h) (by assumption) (yields_slice (by rfl) Tryz.underlying49 (.tmp 61) (some (.tmp 63)) none rfl rfl rfl rfl hrun1) ?_
   (try simp only [Act.put,pA,pB,pC])
   refine run_out ?_
   refine wpAnyH_ready (rs:=[15]) (by kernel_rfl) (by simp) ?_
   refine (readyR rfl (fun K hK=>?_) AllReadyH.nil)
   refine step_append_run (t:=49) (t':=49) (w':=W7) (v:=v1) rfl (.const (.slice none 0 0)) (.tmp 52) rfl rfl rfl ?_ ?_
   ·exact hr1
   refine hK.out _ _ ?_ (fun hHeld=>?_)
   ·first | exact k11 | exact k10 | exact k7 | exact k9
   clear hK K
   (try simp only [Act.put,pA,pB,pC])
   refine wpAnyH_ready (rs:=[27]) (by kernel_rfl) (by simp) ?_
   refine (readyR rfl (fun K hK=>?_) AllReadyH.nil)
   refine step_append_run (t:=49) (t':=49) (w':=W8) (v:=v2) rfl (.tmp 53) (.tmp 64) rfl rfl rfl ?_ ?_
   ·exact hr2
   refine hK.out _ _ ?_ (fun hHeld=>?_)
   ·first | exact k11 | exact k10 | exact k7 | exact k9
   clear hK K
   (try simp only [Act.put,pA,pB,pC])
   refine run_in [28,29] ?_
   iterate 2 (refine run_e rfl (by kernel_rfl) (by rfl) (fun _ _ _ _ h=>h) (by assumption) ?_;apply Exists.intro;refine And.intro (fun w hSw=>?_) ?_;(focus (try dsimp only at hSw);go_simp;(try with_reducible rfl));(try simp only [Act.put,pA,pB,pC]))
   refine run_out ?_
   refine wpAnyH_ready (rs:=[30]) (by kernel_rfl) (by simp) ?_
   refine (readyR rfl (fun K hK=>?_) AllReadyH.nil)
   refine step_store_run (by rfl) 49 (.tmp 67) (.tmp 65) rfl (p:=⟨gl,i * 20 + 19,none⟩) (v:=v2) rfl rfl hst ?_
   refine hK.out _ _ ?_ (fun hHeld=>?_)
   ·first | exact k11 | exact k10 | exact k7 | exact k9
   clear hK K
   (try simp only [Act.put,pA,pB,pC])
   refine wpAnyH_done (by kernel_rfl) ?_ _
   go_wp2_with fail
   go_ret2
   exact ⟨rfl,HP.out⟩
 ·refine step_load_run (by rfl) 49 (.tmp 60) rfl (p:=⟨gl,i * 20 + 19,none⟩) (v:=vr) rfl (ld49 _ _ _ ?_) ?_
  ·first | exact l9 | exact l7
  refine hK.out _ _ ?_ (fun hHeld=>?_)
  ·first | exact k11 | exact k10 | exact k7 | exact k9
  clear hK K
  (try simp only [Act.put,pA,pB,pC])
  refine run_in [26] ?_
  refine run_r rfl (by kernel_rfl) (fun _ _ _ _ h=>h) (by assumption) (yields_slice (by rfl) Tryz.underlying49 (.tmp 61) (some (.tmp 63)) none rfl rfl rfl rfl hrun1) ?_
  (try simp only [Act.put,pA,pB,pC])
  refine run_out ?_
  refine wpAnyH_ready (rs:=[12]) (by kernel_rfl) (by simp) ?_
  refine (readyR rfl (fun K hK=>?_) AllReadyH.nil)
  refine step_load_run (by rfl) 49 (.tmp 49) rfl (p:=⟨gl,i * 20 + 19,none⟩) (v:=vr) rfl (ld49 _ _ _ ?_) ?_
  ·first | exact l9 | exact l7
  refine hK.out _ _ ?_ (fun hHeld=>?_)
  ·first | exact k11 | exact k10 | exact k7 | exact k9
  clear hK K
  (try simp only [Act.put,pA,pB,pC])
  refine run_in [14] ?_
  refine run_r rfl (by kernel_rfl) (fun _ _ _ _ h=>h) (by assumption) (yields_slice (by rfl) Tryz.underlying49 (.tmp 50) none (some (.tmp 51)) rfl rfl rfl rfl hrun3) ?_
  (try simp only [Act.put,pA,pB,pC])
  refine run_out ?_
  refine wpAnyH_ready (rs:=[15]) (by kernel_rfl) (by simp) ?_
  refine (readyR rfl (fun K hK=>?_) AllReadyH.nil)
  refine step_append_run (t:=49) (t':=49) (w':=W7) (v:=v1) rfl (.const (.slice none 0 0)) (.tmp 52) rfl rfl rfl ?_ ?_
  ·exact hr1
  refine hK.out _ _ ?_ (fun hHeld=>?_)
  ·first | exact k11 | exact k10 | exact k7 | exact k9
  clear hK K
  (try simp only [Act.put,pA,pB,pC])
  refine wpAnyH_ready (rs:=[27]) (by kernel_rfl) (by simp) ?_
  refine (readyR rfl (fun K hK=>?_) AllReadyH.nil)
  refine step_append_run (t:=49) (t':=49) (w':=W8) (v:=v2) rfl (.tmp 53) (.tmp 64) rfl rfl rfl ?_ ?_
  ·exact hr2
  refine hK.out _ _ ?_ (fun hHeld=>?_)
  ·first | exact k11 | exact k10 | exact k7 | exact k9
  clear hK K
  (try simp only [Act.put,pA,pB,pC])
  refine run_in [28,29] ?_
  iterate 2 (refine run_e rfl (by kernel_rfl) (by rfl) (fun _ _ _ _ h=>h) (by assumption) ?_;apply Exists.intro;refine And.intro (fun w hSw=>?_) ?_;(focus (try dsimp only at hSw);go_simp;(try with_reducible rfl));(try simp only [Act.put,pA,pB,pC]))
  refine run_out ?_
  refine wpAnyH_ready (rs:=[30]) (by kernel_rfl) (by simp) ?_
  refine (readyR rfl (fun K hK=>?_) AllReadyH.nil)
  refine step_store_run (by rfl) 49 (.tmp 67) (.tmp 65) rfl (p:=⟨gl,i * 20 + 19,none⟩) (v:=v2) rfl rfl hst ?_
  refine hK.out _ _ ?_ (fun hHeld=>?_)
  ·first | exact k11 | exact k10 | exact k7 | exact k9
  clear hK K
  (try simp only [Act.put,pA,pB,pC])
  refine wpAnyH_done (by kernel_rfl) ?_ _
  go_wp2_with fail
  go_ret2
  exact ⟨rfl,HP.out⟩
end
def gathO {n:Nat} (l:List (OpE n)):List (Tm (n + 1) × Value):=l.flatMap (fun e=>[(e.a,e.ua),(e.b,e.ub),(e.r,e.ur)])
theorem gathO_take {n:Nat} {l:List (OpE n)} {i:Nat} {e:OpE n} (h:l[i]? = some e):gathO (l.take (i + 1)) = gathO (l.take i) ++ [(e.a,e.ua),(e.b,e.ub),(e.r,e.ur)]:=by
 unfold gathO
 rw [List.take_add_one,h,List.flatMap_append]
 simp
theorem gathO_len {n:Nat} (l:List (OpE n)):(gathO l).length = 3 * l.length:=by
 induction l with
 | nil=>rfl
 | cons e l ih =>
  have:gathO (e :: l) = [(e.a,e.ua),(e.b,e.ub),(e.r,e.ur)] ++ gathO l:=rfl
  rw [this,List.length_append,ih,List.length_cons]
  simp
  omega
theorem gathO_ok {n:Nat} {W:World} {B:Nat} {l:List (OpE n)} (h:∀ e ∈ l,OpIn W B e):∀ r ∈ gathO l,tEok W B r:=fun r hr=>by
 obtain ⟨e,he,hm⟩:=List.mem_flatMap.1 hr
 obtain ⟨h1,h2,h3⟩:=h e he
 simp only [List.mem_cons,List.mem_nil_iff,or_false] at hm
 rcases hm with rfl | rfl | rfl
 ·exact h1
 ·exact h2
 ·exact h3
theorem gathO_nodes {n:Nat} {l:List (OpE n)} (h:greatS (n + 1) ((gathO l).map (·.1)) 8000 = false):nodesL (n + 1) ((gathO l).map (·.1)) ≤ 8000∧∀ e ∈ l,(nodesT e.a:Int) ≤ 8000∧(nodesT e.b:Int) ≤ 8000∧(nodesT e.r:Int) ≤ 8000:=by
 have key:∀ r ∈ gathO l,(nodesT r.1:Int) ≤ 8000:=fun r hr=>by
  obtain ⟨k,hk,e⟩:=List.getElem_of_mem (List.mem_map_of_mem (f:=(·.1)) hr)
  have h1:=nodes_mem hk
  have h2:=great_nodes h
  rw [e] at h1
  omega
 refine ⟨by have:=great_nodes h;omega,fun e he=>?_⟩
 have hm:∀ r ∈ [(e.a,e.ua),(e.b,e.ub),(e.r,e.ur)],r ∈ gathO l:=fun r hr=>List.mem_flatMap.2 ⟨e,he,hr⟩
 exact ⟨key _ (hm (e.a,e.ua) (by simp)),key _ (hm (e.b,e.ub) (by simp)),key _ (hm (e.r,e.ur) (by simp))⟩
def GaO {n:Nat} (l:List (OpE n)) (W:World) (m:Nat) (tv iv:Value) (wr:World):Prop:=∃ i:Nat,iv = .int .i64 (i:Int)∧i ≤ l.length∧m = l.length - i∧RecOwn tE 24 9 wr W.heap.size tv (gathO (l.take i))∧Below W.heap.size W wr
def SmallO {n:Nat} (l:List (OpE n)):Prop:=l.length ≤ 200∧nodesL (n + 1) ((gathO l).map (·.1)) ≤ 8000∧∀ e ∈ l,(nodesT e.a:Int) ≤ 8000∧(nodesT e.b:Int) ≤ 8000∧(nodesT e.r:Int) ≤ 8000
def GrP {n:Nat} (l:List (OpE n)) (w:World) (e:Ending) (w':World):Prop:=∃ b,e = .returned (.bool b)∧(b = false→SmallO l)∧Below w.heap.size w w'
theorem rec_rngs {α:Type} {enc:α→List Value} {s:Nat} {w:World} {B g o n c:Nat} {l:List α} (h:RecAt enc s w B (.slice (some ⟨g,o,none⟩) n c) l) {i:Nat} {a:α} (ha:l[i]? = some a):w.rangeAt g (o + i * s) (enc a):=by
 obtain ⟨g',o',e,_,_,hc⟩:=h.nth (by have:=(List.getElem?_eq_some_iff.1 ha).1;omega)
 simp only [Option.some.injEq,Addr.mk.injEq,and_true] at e
 obtain ⟨rfl,rfl⟩:=e
 exact fun j u hu=>by
  have:=hc i a ha j u hu
  rwa [← Nat.add_assoc] at this
theorem op_parts {n:Nat} {w:World} {g o:Nat} {e:OpE n} (h:w.rangeAt g o (opL e)):w.cell? ⟨g,o,none⟩ = some (.int .i64 e.kind)∧w.rangeAt g (o + 1) (nineL e.a.f e.ua)∧w.rangeAt g (o + 10) (nineL e.b.f e.ub)∧w.rangeAt g (o + 19) (nineL e.r.f e.ur)∧w.cell? ⟨g,o + 28,none⟩ = some (.bool e.hs):=by
 have e1:opL e = [.int .i64 e.kind] ++ (nineL e.a.f e.ua ++ (nineL e.b.f e.ub ++ (nineL e.r.f e.ur ++ [.bool e.hs]))):=by unfold opL;simp
 rw [e1] at h
 have h1:=rng_suf h (n:=1) rfl
 have h2:=rng_suf h1 (n:=9) rfl
 have h3:=rng_suf h2 (n:=9) rfl
 have h4:=rng_suf h3 (n:=9) rfl
 rw [show o + 1 + 9 = o + 10 by omega] at h2 h3 h4
 rw [show o + 10 + 9 = o + 19 by omega] at h3 h4
 rw [show o + 19 + 9 = o + 28 by omega] at h4
 exact ⟨h 0 _ rfl,rng_pre h1,rng_pre h2,rng_pre h3,h4 0 _ rfl⟩
theorem great15 {n:Nat} (w1:World) {B:Nat} (hB:B ≤ w1.heap.size) (v:Value) (l:List (OpE n)) (hr:RecAt opL 29 w1 B v l) (hin:∀ e ∈ l,OpIn w1 B e) (hsz:l.length * 352 ≤ 140737488355328):Calls Tryz.prog 15 #[v,.int .i64 8000] w1 (GrP l w1):=by
 obtain ⟨pv,cv,rfl,_,_⟩:=hr.shape
 have HR:=Lib.hid (fun w' (h:Below w1.heap.size w1 w')=>hr.below h hB)
 have HIn:=Lib.hid hin
 have hlb:l.length ≤ 1000000000000:=by omega
 have HSz:=Lib.hid hsz
 have HBB:=Lib.hid hB
 clear hr hin hsz hB
 have H00:Hid (GaO l w1 l.length (.slice none 0 0) (.int .i64 0) w1):=Lib.hid ⟨0,rfl,Nat.zero_le _,rfl,RecOwn.nil _ _ _,Below.refl _ _⟩
 have hsz9:(Tryz.prog.info? 24).map (·.size) = some 9:=by kernel_rfl
 go_enter Tryz.func15,Tryz.ntmps15
 go_wp2_with fail
 go_loopg [5,6] l.length (fun m tv iv wr=>Hid (GaO l w1 m tv iv wr))
 case atStart=>exact H00
 case round =>
  obtain ⟨i,rfl,hi,hn,hown,hbw⟩:=hrel.out
  clear hrel H00
  by_cases hlt:i < l.length
  ·have r1:(i:Int) < (l.length:Int):=by omega
   have hat:=List.getElem?_eq_getElem hlt
   obtain ⟨g,o,e1,hn0,hg,_⟩:=(HR.out _ hbw).nth (by omega)
   subst e1
   have hR:=rec_rngs (HR.out _ (Below.refl _ _)) hat
   have hme:=HIn.out _ (List.getElem_mem hlt)
   have HTk:=Lib.hid (gathO_take hat)
   have HG3:Hid ((gathO (l.take i)).length = 3 * i):=Lib.hid (by rw [gathO_len,List.length_take];omega)
   generalize l[i] = e at *
   obtain ⟨okd,ta,tb,tc,ohs,ua,ub,uc⟩:=e
   have HOk:Hid (∀ r ∈ [(ta,ua),(tb,ub),(tc,uc)],tEok w1 B r):=Lib.hid (fun r hr=>by
    obtain ⟨h1,h2,h3⟩:=hme
    simp only [List.mem_cons,List.mem_nil_iff,or_false] at hr
    rcases hr with rfl | rfl | rfl
    ·exact h1
    ·exact h2
    ·exact h3)
   obtain ⟨m1,m2,m3⟩:=hme
   obtain ⟨pa,ca,ea,_,_⟩:=m1.shape
   obtain ⟨pb,cb,eb,_,_⟩:=m2.shape
   obtain ⟨pc,cc,ec,_,_⟩:=m3.shape
   dsimp only at ea eb ec
   subst ea;subst eb;subst ec
   obtain ⟨_,hRa,hRb,hRc,_⟩:=op_parts hR
   dsimp only at hRa hRb hRc HTk
   have hE:EncOK tE 9 [(ta,Value.slice pa ta.items.length ca),(tb,.slice pb tb.items.length cb),(tc,.slice pc tc.items.length cc)]:=fun r hr=>⟨tE_len r,tE_one (HOk.out r hr)⟩
   have HE:=Lib.hid hE
   have HN:=Lib.hid hn
   obtain ⟨G3,hG3⟩:∃ x,x = [(ta,Value.slice pa ta.items.length ca),(tb,.slice pb tb.items.length cb),(tc,.slice pc tc.items.length cc)]:=⟨_,rfl⟩
   have hfl:(G3.flatMap tE) = nineL ta.f (.slice pa ta.items.length ca) ++ (nineL tb.f (.slice pb tb.items.length cb) ++ nineL tc.f (.slice pc tc.items.length cc)):=by rw [hG3];simp [tE]
   have h3l:G3.length = 3:=by rw [hG3];rfl
   rw [← hG3] at HTk HE
   clear hR hat m1 m2 m3 hE hG3 HOk hn hn0
   generalize ta.items.length = na at *
   generalize tb.items.length = nb at *
   generalize tc.items.length = nc at *
   generalize ta.f = fa at *
   generalize tb.f = fb at *
   generalize tc.f = fc at *
   obtain ⟨xk,xi,xg,xn,xf,xa,xb,xz⟩:=fa
   obtain ⟨yk,yi,yg,yn,yf,ya,yb,yz⟩:=fb
   obtain ⟨zk,zi,zg,zn,zf,za,zb,zz⟩:=fc
   unfold nineL at hRa hRb hRc hfl
   dsimp only at hRa hRb hRc
   have HRa:=Lib.hid (fun W (hW:Below w1.heap.size w1 W)=>rng_same hRa (hW.block g (by have:=HBB.out;omega)))
   have HRb:=Lib.hid (fun W (hW:Below w1.heap.size w1 W)=>rng_same hRb (hW.block g (by have:=HBB.out;omega)))
   have HRc:=Lib.hid (fun W (hW:Below w1.heap.size w1 W)=>rng_same hRc (hW.block g (by have:=HBB.out;omega)))
   have HFresh:=Lib.hid (fun (W:World)=>(show RecAt tE 9 (W.alloc (.cells #[.int .i64 xk,.int .i64 xi,.int .i64 xg,.string xn,.string xf,.int .i64 xa,.slice pa na ca,.string xb,.int .i64 xz,.int .i64 yk,.int .i64 yi,.int .i64 yg,.string yn,.string yf,.int .i64 ya,.slice pb nb cb,.string yb,.int .i64 yz,.int .i64 zk,.int .i64 zi,.int .i64 zg,.string zn,.string zf,.int .i64 za,.slice pc nc cc,.string zb,.int .i64 zz] 24)) (W.heap.size + 1) (.slice (some ⟨W.heap.size,0,none⟩) 3 3) G3 from by
    have h1:=alloc_new W (.cells (G3.flatMap tE).toArray 24)
    have h2:=RecAt.fresh (c:=3) HE.out (by decide) h1 (by rw [h3l];exact Nat.le_refl _) (by decide)
    rw [hfl,h3l] at h2
    exact h2))
   go_upto_region 5 with (fail)
   replace hown:=hown.below (belowD (Below.refl wr.heap.size wr))
   replace hbw:=hbw.trans ((belowD (Below.refl wr.heap.size wr)).mono hbw.size)
   clear hRa hRb hRc hfl
   refine wp_region_held_drew (S:=(fun w'=>w'.rangeAt g (o + i * 29 + 1) [.int .i64 xk,.int .i64 xi,.int .i64 xg,.string xn,.string xf,.int .i64 xa,.slice pa na ca,.string xb,.int .i64 xz]∧w'.rangeAt g (o + i * 29 + 10) [.int .i64 yk,.int .i64 yi,.int .i64 yg,.string yn,.string yf,.int .i64 ya,.slice pb nb cb,.string yb,.int .i64 yz]∧w'.rangeAt g (o + i * 29 + 19) [.int .i64 zk,.int .i64 zi,.int .i64 zg,.string zn,.string zf,.int .i64 za,.slice pc nc cc,.string zb,.int .i64 zz])) (by kernel_rfl) ?_ (fun hHeld=>?_)
   ·exact ⟨HRa.out _ hbw,HRb.out _ hbw,HRc.out _ hbw⟩
   generalize wr.drew = wd at *
   refine run_in [0,1,2,3,4,5,6,7,8,9,10,11,12,13,14,15] ?_
   iterate 5 (refine run_e rfl (by kernel_rfl) (by rfl) (fun _ _ _ _ h=>h) (by assumption) ?_;apply Exists.intro;refine And.intro (fun w hSw=>?_) ?_;(focus (try dsimp only at hSw);go_simp;(try with_reducible rfl));(try simp only [Act.put,pA,pB,pC]))
   refine run_r rfl (by kernel_rfl) (fun _ _ _ _ h=>h) (by assumption) (yieldsIf_load_mid (by rfl) 24 (.tmp 17) rfl g (o + i * 29 + 1) rfl [.int .i64 xk,.int .i64 xi,.int .i64 xg,.string xn,.string xf,.int .i64 xa,.slice pa na ca,.string xb,.int .i64 xz] _ (fun w hs=>hs.1) Tryz.underlying24 rfl hsz9) ?_
   (try simp only [Act.put,pA,pB,pC])
   iterate 4 (refine run_e rfl (by kernel_rfl) (by rfl) (fun _ _ _ _ h=>h) (by assumption) ?_;apply Exists.intro;refine And.intro (fun w hSw=>?_) ?_;(focus (try dsimp only at hSw);go_simp;(try with_reducible rfl));(try simp only [Act.put,pA,pB,pC]))
   refine run_r rfl (by kernel_rfl) (fun _ _ _ _ h=>h) (by assumption) (yieldsIf_load_mid (by rfl) 24 (.tmp 22) rfl g (o + i * 29 + 10) rfl [.int .i64 yk,.int .i64 yi,.int .i64 yg,.string yn,.string yf,.int .i64 ya,.slice pb nb cb,.string yb,.int .i64 yz] _ (fun w hs=>hs.2.1) Tryz.underlying24 rfl hsz9) ?_
   (try simp only [Act.put,pA,pB,pC])
   iterate 4 (refine run_e rfl (by kernel_rfl) (by rfl) (fun _ _ _ _ h=>h) (by assumption) ?_;apply Exists.intro;refine And.intro (fun w hSw=>?_) ?_;(focus (try dsimp only at hSw);go_simp;(try with_reducible rfl));(try simp only [Act.put,pA,pB,pC]))
   refine run_r rfl (by kernel_rfl) (fun _ _ _ _ h=>h) (by assumption) (yieldsIf_load_mid (by rfl) 24 (.tmp 27) rfl g (o + i * 29 + 19) rfl [.int .i64 zk,.int .i64 zi,.int .i64 zg,.string zn,.string zf,.int .i64 za,.slice pc nc cc,.string zb,.int .i64 zz] _ (fun w hs=>hs.2.2) Tryz.underlying24 rfl hsz9) ?_
   (try simp only [Act.put,pA,pB,pC])
   refine run_out ?_
   refine wpAnyH_ready (rs:=[16]) (by kernel_rfl) (by simp) ?_
   refine (readyR rfl (fun K hK=>?_) AllReadyH.nil)
   have hba:=belowA (Below.refl wd.heap.size wd) (.cells #[.int .i64 xk,.int .i64 xi,.int .i64 xg,.string xn,.string xf,.int .i64 xa,.slice pa na ca,.string xb,.int .i64 xz,.int .i64 yk,.int .i64 yi,.int .i64 yg,.string yn,.string yf,.int .i64 ya,.slice pb nb cb,.string yb,.int .i64 yz,.int .i64 zk,.int .i64 zi,.int .i64 zg,.string zn,.string zf,.int .i64 za,.slice pc nc cc,.string zb,.int .i64 zz] 24) (Nat.le_refl _)
   have hbw8:=hbw.trans (hba.mono hbw.size)
   have hown8:=hown.below hba
   have hfr:=HFresh.out wd
   obtain ⟨v8,W9,hr9,hA9⟩:=run_append_recB elB24 hown8 hbw8.size 22 hfr HE.out (by have h1:=HSz.out;have h2:=HG3.out;rw [h2,h3l];omega) (by decide) (by decide)
   have hbw9:=hA9.belowB hbw8 hbw8.size (fun k hk=>(hown.lt hk).1)
   go_simp
   refine hK.out _ _ ?_ (fun hHeld=>?_)
   ·first | exact ⟨HRa.out _ hbw9,HRb.out _ hbw9,HRc.out _ hbw9⟩ | exact ⟨HRa.out _ hbw8,HRb.out _ hbw8,HRc.out _ hbw8⟩
   clear hK K
   (try simp only [Act.put,pA,pB,pC])
   refine wpAnyH_ready (rs:=[17]) (by kernel_rfl) (by simp) ?_
   refine (readyR rfl (fun K hK=>?_) AllReadyH.nil)
   refine step_append_run (t:=22) (t':=22) (w':=W9) (v:=v8) rfl (.tmp 13) (.tmp 29) rfl rfl rfl hr9 ?_
   refine hK.out _ _ ?_ (fun hHeld=>?_)
   ·first | exact ⟨HRa.out _ hbw9,HRb.out _ hbw9,HRc.out _ hbw9⟩ | exact ⟨HRa.out _ hbw8,HRb.out _ hbw8,HRc.out _ hbw8⟩
   clear hK K
   (try simp only [Act.put,pA,pB,pC])
   refine run_in [18] ?_
   (refine run_e rfl (by kernel_rfl) (by rfl) (fun _ _ _ _ h=>h) (by assumption) ?_;apply Exists.intro;refine And.intro (fun w hSw=>?_) ?_;(focus (try dsimp only at hSw);go_simp;(try with_reducible rfl));(try simp only [Act.put,pA,pB,pC]))
   refine run_out ?_
   refine wpAnyH_done (by kernel_rfl) ?_ _
   have HO8:Hid (RecOwn tE 24 9 W9 w1.heap.size v8 (gathO (l.take (i + 1)))):=Lib.hid (by rw [HTk.out];exact hA9.own)
   have HB8:=Lib.hid hbw9
   clear hA9 hr9 hfr hown8 hown hbw hbw8 hbw9 hba
   go_wp2_with fail
   go_roundg (l.length - (i + 1))
   case measure=>have:=HN.out;omega
   case rel=>exact Lib.hid ⟨i + 1,by go_num,by omega,rfl,HO8.out,HB8.out⟩
  ·obtain rfl:i = l.length:=by omega
   have HB2:=Lib.hid hbw
   obtain ⟨po,co,rfl,_,_⟩:=hown.shape
   rw [List.take_length] at hown
   have HO:=Lib.hid hown
   clear hbw hn hown
   by_cases h150:(200:Int) < (l.length:Int)
   ·have q1:decide ((200:Int) < (l.length:Int)) = true:=decide_eq_true h150
    go_wp2_with fail
    go_ret
    exact ⟨true,rfl,(fun h=>by cases h),HB2.out⟩
   have q1:decide ((200:Int) < (l.length:Int)) = false:=decide_eq_false h150
   have hl150:l.length ≤ 200:=by omega
   have HL:=Lib.hid hl150
   have hOk:∀ r ∈ gathO l,tEok wr B r:=fun r hr=>ItemsAt.below (gathO_ok HIn.out r hr) HB2.out HBB.out
   have hRow:=HO.out.row (fun r hr=>⟨tE_len r,tE_one (hOk r hr)⟩)
   have hIt:=row_terms hRow (fun r hr=>(hOk r hr).more (Nat.le_trans HBB.out HB2.out.size))
   have HGr:=Lib.hid (tm.Great wr wr.heap.size _ _ 8000 (Nat.le_refl _) (by decide) (by decide) hIt)
   clear hOk hRow hIt
   obtain ⟨gr,hgr⟩:∃ b,greatS (n + 1) ((gathO l).map (·.1)) 8000 = b:=⟨_,rfl⟩
   rw [hgr] at HGr
   unfold BPost at HGr
   have HGe:=Lib.hid hgr
   clear hgr
   have htl:(gathO (l.take l.length)).length = (gathO l).length:=by rw [List.take_length]
   rw [htl]
   clear htl
   go_wp2_with fail
   refine HGr.out.mono ?_
   rintro e w2 ⟨rfl,hb2⟩
   have HB3:=Lib.hid (HB2.out.trans (hb2.mono HB2.out.size))
   clear hb2 HGr
   go_wp2_with fail
   go_ret
   exact ⟨gr,rfl,fun h=>⟨HL.out,gathO_nodes (HGe.out.trans h)⟩,HB3.out⟩
def pickI (k m:Int):Int:=if Int.tmod k m < 0 then Int.tmod k m + m else Int.tmod k m
theorem pick21 (w:World) (k:Int) (m:Nat) (h1:1 ≤ m) (h2:m ≤ 1000):Calls Tryz.prog 21 #[.int .i64 k,.int .i64 (m:Int)] w fun e w'=>e = .returned (.int .i64 (pickI k m))∧Below w.heap.size w w':=by
 have hb:=Below.refl w.heap.size w
 have hm0:¬ ((m:Int) = 0):=by omega
 have hlo:-(m:Int) < Int.tmod k m∧Int.tmod k m < (m:Int):=by
  have h:=Int.natAbs_tmod k m
  have h3:(Int.tmod k m).natAbs < m:=by
   rw [h]
   simpa using Nat.mod_lt k.natAbs (by omega:0 < m)
  omega
 unfold pickI
 generalize hq:Int.tmod k m = q at *
 have hw:IntKind.i64.wrap q = q:=IntWalk.i64_in _ (by omega)
 have hw2:IntKind.i64.wrap (q + (m:Int)) = q + (m:Int):=IntWalk.i64_in _ (by omega)
 have HB:=Lib.hid hb
 clear hb
 by_cases hneg:q < 0
 ·rw [if_pos hneg]
  go_enter Tryz.func21,Tryz.ntmps21
  go_wp2_with fail
  go_ret
  exact ⟨rfl,HB.out⟩
 ·rw [if_neg hneg]
  go_enter Tryz.func21,Tryz.ntmps21
  go_wp2_with fail
  go_ret
  exact ⟨rfl,HB.out⟩
end Go.Proofs.YtfbggmbmgohiiaaGreat.tb
