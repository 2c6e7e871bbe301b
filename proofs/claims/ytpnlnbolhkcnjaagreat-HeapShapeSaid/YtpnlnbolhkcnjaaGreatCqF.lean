
/- heap's Shape. Conditions: as said. -/
import Derived.Test.YtpnlnbolhkcnjaaGreatCqE
namespace Go.Proofs.YtpnlnbolhkcnjaaGreat.cl
open Go.RowKit mem words
set_option linter.unusedVariables false
set_option linter.unusedSimpArgs false
set_option maxHeartbeats 4000000
set_option maxRecDepth 100000

theorem shape50 (w : World) (B : Nat) (v1 v2 : Value) (m : Mm) (hB : B ≤ w.heap.size) (h1 : WAt w B v1 m.y) (h2 : WAt w B v2 m.o) (w1 : Wds m.y) (w2 : Wds m.o) (l1 : m.y.length ≤ 100000) (l2 : m.o.length ≤ 100000) :
    Calls Tryz.prog 12 #[.agg #[v1, v2, .int .i64 m.at_]] w (ShapePost m w) := by
  have HS := Lib.hid (fun W (hb : Below w.heap.size w W) => shape82 W B v1 v2 m (Nat.le_trans hB hb.size) (h1.below hb hB) (h2.below hb hB) w1 w2 l1 l2)
  obtain ⟨p1, c1, rfl, _⟩ := id h1
  obtain ⟨p2, c2, rfl, _⟩ := id h2
  rename_i R1 R2
  clear R1 R2 h1 h2
  have hb0 : Below w.heap.size w (w.alloc (.cells #[.slice p1 m.y.length c1, .slice p2 m.o.length c2, .int .i64 m.at_] 24)) := (Below.refl _ _).alloc (Nat.le_refl _) _
  have HB0 := Lib.hid hb0
  clear hb0
  unfold Shape82 at HS
  go_enter Tryz.func12, Tryz.ntmps12
  go_wp2_with fail
  refine (HS.out _ HB0.out).mono ?_
  rintro e W2 ⟨hb2, q1, n1, d1, q2, n2, d2, q3, n3, d3, q4, n4, d4, r, rfl, hr⟩
  have HB2 := Lib.hid (HB0.out.trans (hb2.mono HB0.out.size))
  have HB3 := Lib.hid (HB2.out.alloc HB2.out.size (.cells #[.slice q1 n1 d1, .slice q2 n2 d2, .slice q3 n3 d3, .slice q4 n4 d4] 110))
  have HR := Lib.hid hr
  clear hb2 hr HB0 HS
  go_wp2_with fail
  go_ret
  exact ⟨r, rfl, HR.out, HB3.out⟩
end Go.Proofs.YtpnlnbolhkcnjaaGreat.cl
