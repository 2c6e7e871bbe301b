/- TimersKnown. No condition. -/
import Derived.Test.YtgkiknkifleofaaWalkX
namespace Go.Proofs.Ytgkiknkifleofaa.tm
open Go.RowKit mem TP
set_option linter.unusedVariables false
set_option linter.unusedSimpArgs false
set_option maxHeartbeats 1000000
set_option maxRecDepth 100000

theorem AddNil (w : World) (a b : Int) : Calls Try.prog 15 #[.pointer none, .int .i64 a, .int .i64 b] w fun e w' => e = .returned (.int .i64 1) ∧ w = w' := by
  go_enter Try.func15, Try.ntmps15
  go_wp2_with fail
  refine (isNil w).mono ?_
  rintro e w1 ⟨rfl, rfl⟩
  go_wp2_with fail
  go_ret
  exact ⟨rfl, rfl⟩
theorem TakeNil (w : World) (a : Int) : Calls Try.prog 20 #[.pointer none, .int .i64 a] w fun e w' => e = .returned (.tuple #[.int .i64 0, .bool false]) ∧ w = w' := by
  go_enter Try.func20, Try.ntmps20
  go_wp2_with fail
  refine (isNil w).mono ?_
  rintro e w1 ⟨rfl, rfl⟩
  go_wp2_with fail
  go_ret2
  exact ⟨rfl, rfl⟩
theorem AddZero (z : Nat) (w : World) (h : w.cell? ⟨z, 0, none⟩ = some (.map none)) (a b : Int) : Calls Try.prog 15 #[.pointer (some ⟨z, 0, none⟩), .int .i64 a, .int .i64 b] w fun e w' => e = .returned (.int .i64 1) ∧ w = w' := by
  have hi := isZero z w h
  clear h
  go_enter Try.func15, Try.ntmps15
  go_wp2_with fail
  refine hi.mono ?_
  rintro e w1 ⟨rfl, rfl⟩
  go_wp2_with fail
  go_ret
  exact ⟨rfl, rfl⟩
theorem FirstZero (z : Nat) (w : World) (h : w.cell? ⟨z, 0, none⟩ = some (.map none)) : Calls Try.prog 21 #[.pointer (some ⟨z, 0, none⟩)] w fun e w' => e = .returned (.tuple #[.int .i64 0, .bool false]) ∧ w = w' := by
  have hi := isZero z w h
  clear h
  go_enter Try.func21, Try.ntmps21
  go_wp2_with fail
  refine hi.mono ?_
  rintro e w1 ⟨rfl, rfl⟩
  go_wp2_with fail
  go_ret2
  exact ⟨rfl, rfl⟩
theorem ListZero (z : Nat) (w : World) (h : w.cell? ⟨z, 0, none⟩ = some (.map none)) : Calls Try.prog 14 #[.pointer (some ⟨z, 0, none⟩)] w fun e w' => e = .returned (.slice none 0 0) ∧ w = w' := by
  have hi := isZero z w h
  clear h
  go_enter Try.func14, Try.ntmps14
  go_wp2_with fail
  refine hi.mono ?_
  rintro e w1 ⟨rfl, rfl⟩
  go_wp2_with fail
  go_ret
  exact ⟨rfl, rfl⟩
theorem SNew {w0 w : World} (hb : Below w0.heap.size w0 w) : Calls Try.prog 19 #[] w fun e w' => ∃ b F, e = .returned (.pointer (some ⟨b, 0, none⟩)) ∧ St w0 w' b [] 0 F := by
  refine (New w).mono ?_
  rintro e w' ⟨b, he, hb', hW⟩
  exact ⟨b, _, he, ⟨hb.trans (hb'.mono hb.size), hW, fun k hk => Nat.le_trans hb.size hk.1⟩⟩
theorem lawKnown (w : World) : Calls Try.prog 7 #[] w fun e w' => e = .returned (.bool true) ∧ Below w.heap.size w w' := by
  go_enter Try.func7, Try.ntmps7
  go_wp2_with fail
  refine (SNew (Below.refl _ _)).mono ?_
  rintro e w1 ⟨b, F, rfl, h⟩
  go_wp2_with fail
  refine (SAdd h (by omega) 9 1).mono ?_
  rintro e w2 ⟨rfl, F2, hs⟩
  rw [show addE [] 9 1 = 0 from rfl]
  have h : St w w2 b [⟨9, 1, 1⟩] 1 F2 := hs.st
  clear hs
  go_wp2_with fail
  refine (SAdd h (by omega) 5 2).mono ?_
  rintro e w3 ⟨rfl, F3, hs⟩
  rw [show addE [⟨9, 1, 1⟩] 5 2 = 0 from rfl]
  have h : St w w3 b [⟨5, 2, 2⟩, ⟨9, 1, 1⟩] 2 F3 := hs.st
  clear hs
  go_wp2_with fail
  refine (SAdd h (by omega) 9 3).mono ?_
  rintro e w4 ⟨rfl, F4, hs⟩
  rw [show addE [⟨5, 2, 2⟩, ⟨9, 1, 1⟩] 9 3 = 0 from rfl]
  have h : St w w4 b [⟨5, 2, 2⟩, ⟨9, 1, 1⟩, ⟨9, 3, 3⟩] 3 F4 := hs.st
  clear hs
  go_wp2_with fail
  refine (SAdd h (by omega) 5 2).mono ?_
  rintro e w5 ⟨rfl, F5, hs⟩
  rw [show addE [⟨5, 2, 2⟩, ⟨9, 1, 1⟩, ⟨9, 3, 3⟩] 5 2 = 8 from rfl]
  have h : St w w5 b [⟨5, 2, 2⟩, ⟨9, 1, 1⟩, ⟨9, 3, 3⟩] 3 F5 := hs.st
  clear hs
  go_wp2_with fail
  refine (SAdd h (by omega) (-1) 4).mono ?_
  rintro e w6 ⟨rfl, F6, hs⟩
  rw [show addE [⟨5, 2, 2⟩, ⟨9, 1, 1⟩, ⟨9, 3, 3⟩] (-1) 4 = 2 from rfl]
  have h : St w w6 b [⟨5, 2, 2⟩, ⟨9, 1, 1⟩, ⟨9, 3, 3⟩] 3 F6 := hs.st
  clear hs
  go_wp2_with fail
  refine (SAdd h (by omega) 1 (-1)).mono ?_
  rintro e w7 ⟨rfl, F7, hs⟩
  rw [show addE [⟨5, 2, 2⟩, ⟨9, 1, 1⟩, ⟨9, 3, 3⟩] 1 (-1) = 2 from rfl]
  have h : St w w7 b [⟨5, 2, 2⟩, ⟨9, 1, 1⟩, ⟨9, 3, 3⟩] 3 F7 := hs.st
  clear hs
  go_wp2_with fail
  refine (STake h 4).mono ?_
  rintro e w8 ⟨rfl, hs⟩
  rw [show takeV [⟨5, 2, 2⟩, ⟨9, 1, 1⟩, ⟨9, 3, 3⟩] 4 = none from rfl]
  have h : St w w8 b [⟨5, 2, 2⟩, ⟨9, 1, 1⟩, ⟨9, 3, 3⟩] 3 F7 := hs.st
  clear hs
  go_wp2_with fail
  refine (STake h 8).mono ?_
  rintro e w9 ⟨rfl, hs⟩
  rw [show takeV [⟨5, 2, 2⟩, ⟨9, 1, 1⟩, ⟨9, 3, 3⟩] 8 = some 2 from rfl]
  have h : St w w9 b [⟨9, 1, 1⟩, ⟨9, 3, 3⟩] 3 F7 := hs.st
  clear hs
  go_wp2_with fail
  refine (STake h 8).mono ?_
  rintro e w10 ⟨rfl, hs⟩
  rw [show takeV [⟨9, 1, 1⟩, ⟨9, 3, 3⟩] 8 = none from rfl]
  have h : St w w10 b [⟨9, 1, 1⟩, ⟨9, 3, 3⟩] 3 F7 := hs.st
  clear hs
  go_wp2_with fail
  refine (STake h 9).mono ?_
  rintro e w11 ⟨rfl, hs⟩
  rw [show takeV [⟨9, 1, 1⟩, ⟨9, 3, 3⟩] 9 = some 1 from rfl]
  have h : St w w11 b [⟨9, 3, 3⟩] 3 F7 := hs.st
  clear hs
  go_wp2_with fail
  refine (SDrop h 3).mono ?_
  rintro e w12 ⟨rfl, hs⟩
  rw [show findT [⟨9, 3, 3⟩] 3 = some ⟨9, 3, 3⟩ from rfl]
  have h : St w w12 b [] 3 F7 := hs.st
  clear hs
  go_wp2_with fail
  refine (SDrop h 3).mono ?_
  rintro e w13 ⟨rfl, hs⟩
  rw [show findT [] 3 = none from rfl]
  have h : St w w13 b [] 3 F7 := hs.st
  clear hs
  go_wp2_with fail
  have h2 := h.on ((Below.refl w13.heap.size w13).alloc (Nat.le_refl _) (.cells #[.map none, .slice none 0 0, .int .i64 0] 46))
  have hc : (w13.alloc (.cells #[.map none, .slice none 0 0, .int .i64 0] 46)).cell? ⟨w13.heap.size, 0, none⟩ = some (.map none) := by
    have := (MapKept.heap_alloc w13 (.cells #[.map none, .slice none 0 0, .int .i64 0] 46)).1
    simp only [World.cell?, this]; simp
  clear h
  generalize w13.alloc (.cells #[.map none, .slice none 0 0, .int .i64 0] 46) = W at *
  generalize w13.heap.size = z at *
  refine (TakeNil W 9).mono ?_
  rintro e w14 ⟨rfl, rfl⟩
  go_wp2_with fail
  refine (FirstZero z W hc).mono ?_
  rintro e w14 ⟨rfl, rfl⟩
  have HC := Lib.hid hc; clear hc
  go_wp2_with fail
  refine (SLen h2).mono ?_
  rintro e w14 ⟨rfl, rfl⟩
  go_wp2_with fail
  refine (AddNil W 1 1).mono ?_
  rintro e w14 ⟨rfl, rfl⟩
  go_wp2_with fail
  refine (AddZero z W HC.out 1 1).mono ?_
  rintro e w14 ⟨rfl, rfl⟩
  go_wp2_with fail
  refine (LenNil W).mono ?_
  rintro e w14 ⟨rfl, rfl⟩
  go_wp2_with fail
  refine (ListZero z W HC.out).mono ?_
  rintro e w14 ⟨rfl, rfl⟩
  go_wp2_with fail
  refine (awake h2.bel).mono ?_
  rintro e w14 ⟨rfl, hb⟩
  go_wp2_with fail
  go_ret
  exact ⟨rfl, hb⟩
end Go.Proofs.Ytgkiknkifleofaa.tm
