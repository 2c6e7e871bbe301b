/- CoM,CoN,CoO. No condition beyond theirs. -/
import Derived.Test.YtpnlnbolhkcnjaaGreatK08
set_option linter.unusedSimpArgs false
set_option linter.unusedVariables false
set_option maxHeartbeats 2000000
set_option maxRecDepth 100000
namespace Go.Proofs.YtpnlnbolhkcnjaaGreat.cl
open Go.RowKit mem words
theorem BookAt.below {w w':World} {B B':Nat} {v1 v2 v3 v4:Value} {m:Mm} {K:Bk} (h:BookAt w B v1 v2 v3 v4 m K) (hb:Below B' w w') (hB:B ≤ B'):BookAt w' B v1 v2 v3 v4 m K :=
 ⟨h.y.below hb hB,h.o.below hb hB,h.fy.below hb hB,h.fo.below hb hB,h.oy,h.oo,h.wy,h.wo,h.ly,h.lo⟩
theorem BookAt.more {w:World} {B B':Nat} {v1 v2 v3 v4:Value} {m:Mm} {K:Bk} (h:BookAt w B v1 v2 v3 v4 m K) (hB:B ≤ B'):BookAt w B' v1 v2 v3 v4 m K :=
 ⟨h.y.more hB,h.o.more hB,h.fy.more hB,h.fo.more hB,h.oy,h.oo,h.wy,h.wo,h.ly,h.lo⟩
theorem BookAt.form {w:World} {B:Nat} {v1 v2 v3 v4:Value} {m:Mm} {K:Bk} (h:BookAt w B v1 v2 v3 v4 m K):∃ p1 c1 p2 c2 p3 c3 p4 c4,v1 = .slice p1 m.y.length c1∧v2 = .slice p2 m.o.length c2∧v3 = .slice p3 m.y.length c3∧v4 = .slice p4 m.o.length c4:=by
 obtain ⟨p1,c1,e1,_⟩:=h.y;obtain ⟨p2,c2,e2,_⟩:=h.o;obtain ⟨p3,c3,e3,_⟩:=h.fy;obtain ⟨p4,c4,e4,_⟩:=h.fo;rw [marks_len h.oy.pos,h.oy.1] at e3;rw [marks_len h.oo.pos,h.oo.1] at e4;exact ⟨p1,c1,p2,c2,p3,c3,p4,c4,e1,e2,e3,e4⟩
theorem fol_eq {x:List Int} (h:IsObj x):(wds x).drop (fxd (knd x) (wds x).length) = fol x:=by
 obtain ⟨y,r,rfl,hk,hl⟩:=h;have e1:wds (y :: r) = if y % 4 = 0 then r else y :: r:=rfl
 have e2:knd (y :: r) = if y % 4 = 0 then hoK y else 0:=rfl
 have e3:fol (y :: r) = (y :: r).drop (if y % 4 ≠ 0 then 0 else if hoK y = 1 then 1 else if hoK y = 2 then 5 else (y :: r).length):=rfl;rw [e1,e2,e3];unfold fxd
 by_cases h4:y % 4 = 0
 ·have ho:hoOk y = true:=by
   unfold hok at hk;simpa [h4] using hk
  have hk1:1 ≤ hoK y:=by
   unfold hoK;rw [if_pos ho];unfold hoOk at ho;have:=of_decide_eq_true ho;omega
  rw [if_pos h4,if_pos h4,if_neg (show ¬ (y % 4 ≠ 0) by omega)]
  by_cases h1:hoK y = 1
  ·rw [if_pos (.inr h1),if_pos h1];rfl
  ·rw [if_neg (by omega),if_neg h1]
   by_cases h2:hoK y = 2
   ·rw [if_pos h2,if_pos h2];show _ = r.drop 4
    by_cases hr:4 ≤ r.length
    ·rw [Nat.min_eq_left hr]
    ·rw [Nat.min_eq_right (by omega),List.drop_length,List.drop_eq_nil_of_le (by omega)]
   ·rw [if_neg h2,if_neg h2];simp
 ·rw [if_neg h4,if_neg h4,if_pos h4];simp
theorem wds_len {x:List Int} (h:IsObj x):(wds x).length ≤ x.length:=by
 unfold wds
 split
 ·rw [List.length_tail];omega
 ·exact Nat.le_refl _
theorem wds_mem {x:List Int} {v:Int} (h:v ∈ wds x):v ∈ x:=by
 unfold wds at h
 split at h
 ·exact List.mem_of_mem_tail h
 ·exact h
end Go.Proofs.YtpnlnbolhkcnjaaGreat.cl
