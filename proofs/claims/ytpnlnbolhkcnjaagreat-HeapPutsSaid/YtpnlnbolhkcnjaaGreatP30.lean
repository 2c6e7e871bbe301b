/- CoM,CoN,CoO. No condition beyond theirs. -/
import Derived.Test.YtpnlnbolhkcnjaaGreatP29
set_option linter.unusedSimpArgs false
set_option linter.unusedVariables false
set_option maxHeartbeats 2000000
set_option maxRecDepth 100000
namespace Go.Proofs.YtpnlnbolhkcnjaaGreat.cl
open Go.RowKit mem words
theorem BookAt.below {w w':World} {B B':Nat} {v1 v2 v3 v4:Value} {m:Mm} {K:Bk} (h:BookAt w B v1 v2 v3 v4 m K) (hb:Below B' w w') (hB:B ≤ B'):BookAt w' B v1 v2 v3 v4 m K :=
 ⟨h.y.below hb hB,h.o.below hb hB,h.fy.below hb hB,h.fo.below hb hB,h.oy,h.oo,h.wy,h.wo,h.ly,h.lo⟩
theorem BookAt.more {w:World} {B B':Nat} {v1 v2 v3 v4:Value} {m:Mm} {K:Bk} (h:BookAt w B v1 v2 v3 v4 m K) (hB:B ≤ B'):BookAt w B' v1 v2 v3 v4 m K :=
 ⟨h.y.more hB,h.o.more hB,h.fy.more hB,h.fo.more hB,h.oy,h.oo,h.wy,h.wo,h.ly,h.lo⟩
theorem BookAt.form {w:World} {B:Nat} {v1 v2 v3 v4:Value} {m:Mm} {K:Bk} (h:BookAt w B v1 v2 v3 v4 m K):∃ p1 c1 p2 c2 p3 c3 p4 c4,v1 = .slice p1 m.y.length c1∧v2 = .slice p2 m.o.length c2∧v3 = .slice p3 m.y.length c3∧v4 = .slice p4 m.o.length c4:=by
 obtain ⟨p1,c1,e1,_⟩:=h.y;obtain ⟨p2,c2,e2,_⟩:=h.o;obtain ⟨p3,c3,e3,_⟩:=h.fy;obtain ⟨p4,c4,e4,_⟩:=h.fo;rw [marks_len h.oy.pos,h.oy.1] at e3;rw [marks_len h.oo.pos,h.oo.1] at e4;exact ⟨p1,c1,p2,c2,p3,c3,p4,c4,e1,e2,e3,e4⟩
end Go.Proofs.YtpnlnbolhkcnjaaGreat.cl
