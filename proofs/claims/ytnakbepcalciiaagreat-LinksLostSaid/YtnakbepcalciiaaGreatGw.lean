/- Several texts in one, one behind the other: LkX. No condition beyond theirs. -/
import Derived.Test.YtnakbepcalciiaaGreatGv
import Derived.Test.YtnakbepcalciiaaGreatGa
/- shown: some calls of the links. No condition. -/
namespace Go.Proofs.YtnakbepcalciiaaGreat.lk
open Go.RowKit mem rec tm names pm
set_option linter.unusedVariables false
set_option linter.unusedSimpArgs false
set_option maxHeartbeats 4000000
set_option maxRecDepth 100000
def pA : Id := pidI nmN 1
def pB : Id := pidI nmN 2
def pX : Id := pidI nmM 1
def rR : Id := (3, nmN, 1, 1)
def s0 : LkSt := ⟨nmN, 1, 0, [], []⟩
def s1 : LkSt := joinS s0 pA pB
def s2 : LkSt := joinS s1 pA pX
def s3 : LkSt := partS s2 pA pX
def s4 : LkSt := watchS true s3 rR pA pX
theorem okA : okI 6 pA = true := ok_pid v_n (by decide) (by decide)
theorem okB : okI 6 pB = true := ok_pid v_n (by decide) (by decide)
theorem okX : okI 6 pX = true := ok_pid v_m (by decide) (by decide)
theorem okR : okI 3 rR = true := by
  unfold okI rR
  dsimp only
  rw [v_n, inB_t (by omega)]
  rfl
theorem new_n : newB nmN 1 = true := by unfold newB; rw [v_n]; rfl
theorem f1 : pairB nmN 1 false true true pA pB = true := by decide
theorem f2 : sendB s0 pA pB = false := by decide
theorem f3 : pairB nmN 1 false true true pA pX = true := by decide
theorem f4 : sendB s1 pA pX = true := by decide
theorem f5 : keys s2.H = [(pA, pB), (pB, pA), (pA, pX)] := by decide
theorem f6 : (actB s2 (pA, pB), actB s2 (pA, pX), locB nmN 1 pA, partN s2 pA pX, partB s2 pA pX) = (true, true, true, 1, true) := by decide
theorem f7 : (actB s3 (pA, pB), actB s3 (pA, pX)) = (true, false) := by decide
theorem f7k : keys s3.H = [(pA, pB), (pB, pA), (pA, pX)] := by decide
theorem f8 : (okW s3 true true true pA pX, watchE true s3 rR, okW s4 true true true pA pX, watchE true s4 rR) = (true, 0, true, 8) := by decide
theorem f9 : s4.M.map (·.2) = [(rR, pA, pX)] := by rfl
theorem f9b : s4.H = s3.H := rfl
theorem f9c : s4.M.length = 1 := by decide
theorem c1 : cmI pX pB = -1 := by
  unfold cmI cmpV
  rw [if_pos (valid_tmI (.inr rfl) okX), if_pos (valid_tmI (.inr rfl) okB)]
  decide
theorem c0 : cmI pA pA = 0 := tpId.refl pA
theorem c2 : cmP (pA, pX) (pA, pB) ≤ 0 := by
  unfold cmP thenC
  dsimp only
  rw [if_pos c0, c1]
  decide
/-- a sorted list of known members is known -/
theorem sorted_is {L M : List Pr} (hp : L.Perm M) (hs : L.Pairwise (fun x y => cmP x y ≤ 0)) (hm : M.Pairwise (fun x y => cmP x y ≤ 0)) (hk : ∀ p ∈ M, okP p) : L = M := by
  refine List.Perm.eq_of_pairwise (le := fun x y => cmP x y ≤ 0) (fun x y hx hy h1 h2 => ?_) hs hm hp
  have ha := tpPr.anti x y
  exact cmP_eq (hk x (hp.mem_iff.1 hx)) (hk y hy) (by omega)
theorem of_s2 {L : List Pr} (hp : L.Perm ((keys s2.H).filter (fun p => decide (p.1 = pA)))) (hs : L.Pairwise (fun x y => cmP x y ≤ 0)) : actL s2 L = [pX, pB] := by
  have e : (keys s2.H).filter (fun p => decide (p.1 = pA)) = [(pA, pB), (pA, pX)] := by rw [f5]; decide
  rw [e] at hp
  have hL : L = [(pA, pX), (pA, pB)] := sorted_is (hp.trans (List.Perm.swap _ _ _)) hs (by
    rw [List.pairwise_cons]
    exact ⟨fun a ha => by rw [List.mem_singleton] at ha; subst ha; exact c2, List.pairwise_singleton _ _⟩) (fun p h => by
    simp only [List.mem_cons, List.mem_nil_iff, or_false] at h
    rcases h with rfl | rfl
    · exact ⟨okA, okX⟩
    · exact ⟨okA, okB⟩)
  subst hL
  decide
theorem of_s4 {L : List Pr} (hp : L.Perm ((keys s4.H).filter (fun p => decide (p.1 = pA)))) : (actL s4 L).length = 1 := by
  have e : (keys s4.H).filter (fun p => decide (p.1 = pA)) = [(pA, pB), (pA, pX)] := by rw [f9b, f7k]; decide
  rw [e] at hp
  unfold actL
  rw [List.length_map]
  have := (hp.filter (actB s4)).length_eq
  rw [this]
  decide
theorem held_s4 {L : List Mn} (hp : L.Perm ((s4.M.map (·.2)).filter (fun m => true && decide (m.2.1 = pA)))) : L.length = 1 := by
  have := hp.length_eq
  rw [f9] at this
  rw [this]
  decide
end Go.Proofs.YtnakbepcalciiaaGreat.lk
