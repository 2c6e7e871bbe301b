/- The reference's wheel: List and Add. Conditions: the wheel lies in memory. -/
import Derived.Test.YtgkiknkifleofaaRefA
import Derived.Laws.AppendOwnNone
namespace Go.Proofs.Ytgkiknkifleofaa.tm
open Go.RowKit mem TP
set_option linter.unusedVariables false
set_option linter.unusedSimpArgs false
set_option maxHeartbeats 1000000
set_option maxRecDepth 100000

theorem idsV_snoc2 (A : List TD) (k : Nat) (hk : k < A.length) : idsV (A.take (k + 1)) = idsV (A.take k) ++ [.int .i64 A[k].id] := by
  rw [List.take_succ_eq_append_getElem hk]; unfold idsV; rw [List.map_append]; rfl
theorem RList {w : World} {b c : Nat} {A : List TD} {p : Option Addr} {G : Nat → Prop} (h : RefW w b A p c G) : Calls Try.prog 35 #[.pointer (some ⟨b, 0, none⟩)] w (ListPost A w) := by
  obtain ⟨i0, hinf, hz0, hz1, hz2⟩ := info_parts info2
  obtain ⟨c0, _⟩ := h.c0
  have hlen := h.len
  have hbl := h.lt b h.inb
  have HID := fun k (hk : k < A.length) => idsV_snoc2 A k hk
  go_enter Try.func35, Try.ntmps35
  go_wp2_with fail
  go_loopw [3, 4] (fun v s wr => ∃ k : Nat, s = .int .i64 k ∧ k ≤ A.length ∧ wr.ownsRow w.heap.size 2 1 v k (idsV (A.take k)) ∧ Below w.heap.size w wr) (fun _ s _ => A.length - (intOf s).toNat)
  case atStart => exact ⟨0, rfl, by omega, World.ownsRow_nil _ _ _ _, Below.refl _ _⟩
  case round =>
    obtain ⟨k, rfl, hk, hr, hb⟩ := hrel
    have hsz := hb.size
    have d0 : wr.cell? ⟨b, 0, none⟩ = some (.slice p A.length c) := (hb.cell (p := ⟨b, 0, none⟩) hbl).trans c0
    by_cases hlt : k < A.length
    · obtain ⟨g, rfl, hc1, hc2, hx⟩ := h.at_ hlt
      have hgl := h.lt g (h.inr g rfl).1
      have x1 : wr.cell? ⟨g, k * 2 + 1, none⟩ = some (.int .i64 A[k].id) := (hb.cell (p := ⟨g, k * 2 + 1, none⟩) hgl).trans (hx k hlt).2
      have HT1 := Lib.hid (HID k hlt)
      clear hx
      unfold maxLen at hc2
      generalize A[k] = x at *
      go_wp2_with (at_builtin; refine wpList_append_own _ rfl _ _ 27 rfl w.heap.size 2 i0 (.int .i64 0) 1 8 Try.underlying27 hinf hz0 hz1 hz2 rfl (by decide) _ _ _ rfl (hr.alloc _) ⟨wr.heap.size, 0, none⟩ 1 1 [.int .i64 x.id] rfl rfl ?c1 ?c2 ?c3 ?c4 ?c5 ?_)
      case c1 =>
        intro j u hj
        cases j with
        | zero => simp at hj; subst hj; simp [Addr.add]
        | succ j => simp at hj
      case c2 => intro u hu; simp at hu; subst hu; rfl
      case c3 => unfold maxLen; omega
      case c4 => omega
      case c5 => simp; omega
      intro v' w3 hr3 hgrow _
      have hb3 : Below w.heap.size w w3 := (hb.alloc hsz _).grown hgrow (by simp; omega) (by intro g hg; exact (World.ownsRow.lt (h := hr) g hg).1)
      go_wp2_with fail
      go_roundw
      case rel => exact ⟨k + 1, by go_num, by omega, by rw [HT1.out]; exact hr3, hb3⟩
      case measure => simp [intOf]; omega
    · have hkk : A.take k = A := List.take_of_length_le (by omega)
      have hkl : k = A.length := by omega
      have hr2 : wr.ownsRow w.heap.size 2 1 u3 A.length (idsV A) := by rw [hkk, hkl] at hr; exact hr
      clear hkk hkl hr
      go_wp2_with fail
      go_ret
      exact ⟨_, rfl, hr2, hb⟩
end Go.Proofs.Ytgkiknkifleofaa.tm
