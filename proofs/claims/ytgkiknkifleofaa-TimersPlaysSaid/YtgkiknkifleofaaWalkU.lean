/- awake. Conditions: slices.SortFunc's contract. -/
import Derived.Test.YtgkiknkifleofaaWalkT
namespace Go.Proofs.Ytgkiknkifleofaa.tm
open Go.RowKit mem TP
set_option linter.unusedVariables false
set_option linter.unusedSimpArgs false
set_option maxHeartbeats 1000000
set_option maxRecDepth 100000

/-- a wheel that the call itself has made, all of it at or behind B -/
def OwnWheel (B : Nat) (w : World) (b : Nat) (A : List TD) (n : Nat) : Prop := ∃ F, Wheel w b A n F ∧ ∀ k, F k → B ≤ k
theorem OwnWheel.below {B B' : Nat} {w w' : World} {b n : Nat} {A : List TD} (h : OwnWheel B w b A n) (hb : Below B' w w') (hB : w.heap.size ≤ B') : OwnWheel B w' b A n := by
  obtain ⟨F, h1, h2⟩ := h; exact ⟨F, h1.below hb hB, h2⟩
theorem OwnWheel.drewN {B : Nat} {w : World} {b n : Nat} {A : List TD} (h : OwnWheel B w b A n) (k : Nat) : OwnWheel B (w.drewN k) b A n := by
  obtain ⟨F, h1, h2⟩ := h; exact ⟨F, h1.same (Nat.le_refl _) (fun _ _ _ => rfl), h2⟩
theorem OwnWheel.good {B : Nat} {w : World} {b n : Nat} {A : List TD} (h : OwnWheel B w b A n) : Good A n := by
  obtain ⟨F, h1, h2⟩ := h; exact h1.good
theorem NewO (w : World) : Calls Try.prog 19 #[] w fun e w' => ∃ b, e = .returned (.pointer (some ⟨b, 0, none⟩)) ∧ Below w.heap.size w w' ∧ OwnWheel w.heap.size w' b [] 0 :=
  (New w).mono fun e w' ⟨b, he, hb, hw⟩ => ⟨b, he, hb, _, hw, fun k hk => hk.1⟩
theorem AddO {B b n : Nat} {A : List TD} (w : World) (h : OwnWheel B w b A n) (hB : B ≤ w.heap.size) (hn : n < 1000) (due id : Int) : Calls Try.prog 15 #[.pointer (some ⟨b, 0, none⟩), .int .i64 due, .int .i64 id] w fun e w' => e = .returned (.int .i64 (addE A due id)) ∧ OwnWheel B w' b (addT A n due id) (addN A n due id) ∧ Below B w w' := by
  obtain ⟨F, h1, h2⟩ := h
  refine (AddM w h1 hn due id).mono ?_
  rintro e w' ⟨he, F', hW, hT, hF⟩
  exact ⟨he, ⟨F', hW, fun k hk => by rcases hF k hk with e | e; exact h2 k e; omega⟩, hT.below h2 hB⟩
theorem DropO {B b n : Nat} {A : List TD} (w : World) (h : OwnWheel B w b A n) (hB : B ≤ w.heap.size) (id : Int) : Calls Try.prog 17 #[.pointer (some ⟨b, 0, none⟩), .int .i64 id] w fun e w' => e = .returned (.tuple #[.int .i64 (((findT A id).map (·.due)).getD 0), .bool (findT A id).isSome]) ∧ OwnWheel B w' b (dropT A id) n ∧ Below B w w' := by
  obtain ⟨F, h1, h2⟩ := h
  refine (DropM w h1 id).mono ?_
  rintro e w' ⟨he, hW, hT⟩
  exact ⟨he, ⟨F, hW, h2⟩, hT.below h2 hB⟩
theorem ListO (hS : SortS) (hS0 : Sort0) {B b n : Nat} {A : List TD} (w : World) (h : OwnWheel B w b A n) : Calls Try.prog 14 #[.pointer (some ⟨b, 0, none⟩)] w fun e w' => ∃ v, e = .returned v ∧ w'.ownsRow w.heap.size 2 1 v A.length (idsV A) ∧ OwnWheel B w' b A n ∧ Below w.heap.size w w' := by
  obtain ⟨F, h1, h2⟩ := h
  refine (ListM hS hS0 w h1).mono ?_
  rintro e w' ⟨v, he, hr, hb⟩
  exact ⟨v, he, hr, ⟨F, h1.below hb (Nat.le_refl _), h2⟩, hb⟩
theorem LenO {B b n : Nat} {A : List TD} (w : World) (h : OwnWheel B w b A n) : Calls Try.prog 16 #[.pointer (some ⟨b, 0, none⟩)] w fun e w' => e = .returned (.int .i64 A.length) ∧ w = w' := by
  obtain ⟨F, h1, h2⟩ := h; exact LenM w h1
theorem ids_at {w : World} {v : Value} {B : Nat} {A : List TD} (h : w.ownsRow B 2 1 v A.length (idsV A)) : IntsAt w v (A.map (·.id)) := by
  have e : idsV A = (A.map (·.id)).map (Value.int .i64) := by unfold idsV; rw [List.map_map]; rfl
  rw [e] at h
  exact IntsAt.ofRow h

theorem awake1 (hS : SortS) (hS0 : Sort0) (w : World) : Calls Try.prog 10 #[] w fun e w' => e = .returned (.bool true) ∧ Below w.heap.size w w' := by
  go_enter Try.func10, Try.ntmps10
  go_wp2_with fail
  refine (NewO w).mono ?_
  rintro e w1 ⟨b, rfl, hb1, hw1⟩
  go_wp2_with fail
  refine (AddO w1 hw1 hb1.size (by omega) 9 1).mono ?_
  rintro e w2 ⟨rfl, hw2, hb2⟩
  have hw2 : OwnWheel w.heap.size w2 b [⟨9, 1, 1⟩] 1 := hw2
  have hb2 := hb1.trans hb2
  go_wp2_with fail
  refine (AddO w2 hw2 hb2.size (by omega) 5 2).mono ?_
  rintro e w3 ⟨rfl, hw3, hb3⟩
  have hw3 : OwnWheel w.heap.size w3 b [⟨5, 2, 2⟩, ⟨9, 1, 1⟩] 2 := hw3
  have hb3 := hb2.trans hb3
  go_wp2_with fail
  refine (AddO w3 hw3 hb3.size (by omega) 9 3).mono ?_
  rintro e w4 ⟨rfl, hw4, hb4⟩
  have hw4 : OwnWheel w.heap.size w4 b [⟨5, 2, 2⟩, ⟨9, 1, 1⟩, ⟨9, 3, 3⟩] 3 := hw4
  have hb4 := hb3.trans hb4
  go_wp2_with fail
  refine (ListO hS hS0 w4 hw4).mono ?_
  rintro e w5 ⟨v, rfl, hr, hw5, hb5⟩
  have hb5 := hb4.trans (hb5.mono hb4.size)
  obtain ⟨p, c, rfl, hc1, hc2, hc3⟩ := ids_at hr
  obtain ⟨g, o, rfl, hg, hcell⟩ := hc3 (by simp)
  have x0 : w5.cell? ⟨g, o, none⟩ = some (.int .i64 2) := hcell 0 (by simp)
  have x1 : w5.cell? ⟨g, o + 1, none⟩ = some (.int .i64 1) := hcell 1 (by simp)
  have x2 : w5.cell? ⟨g, o + 2, none⟩ = some (.int .i64 3) := hcell 2 (by simp)
  have hlen := LenO w5 hw5
  simp only [List.length_map, List.length_cons, List.length_nil] at hc1 hlen ⊢
  clear hcell hc3 hr hw4 hw3 hw2 hw1 hb1 hb2 hb3 hb4
  go_wp2_with fail
  refine hlen.mono ?_
  rintro e w6 ⟨rfl, rfl⟩
  go_wp2_with fail
  go_ret
  exact ⟨rfl, hb5⟩
end Go.Proofs.Ytgkiknkifleofaa.tm
