/- For every input the Go function TablesRuns returns true, and its arguments read afterwards as before. No condition. -/
import Derived.Test.YtfbggmbmgohiiaaGreatR31
import Derived.Test.YtfbggmbmgohiiaaGreatR51
namespace Go.Proofs.YtfbggmbmgohiiaaGreat.lawTablesRuns
open Go.ChangeShapes Go.WideShapes Go.ChangeAt Go.RowKit Go.Deep Go.Joins
open Go.ChangeMaps (open_string shut_string)
set_option linter.unusedVariables false

theorem own : ownKnob Tryz.prog.godebug=none := by kernel_rfl
theorem laidOut : laidOutB Tryz.prog=true := by kernel_rfl
theorem par : ∀t∈Tryz.f7.params.toList, Tryz.prog.readableRec t=true ∧ t<Tryz.prog.types.size := by
  rw[Tryz.params7]
  intro t ht
  simp only[List.mem_cons, List.mem_nil_iff, or_false]at ht
  obtain rfl := ht
  all_goals exact⟨by kernel_rfl, of_decide_eq_true (by kernel_rfl)⟩
set_option maxRecDepth 100000 in
theorem lifted(os : Os)(started : os.Started)(H : Type)(enc : TypeId×Value → H) :
    ReturnsInHanded {} Tryz.checked os 7 .any (Rows.tablesRunsSpec.pre6 enc Tryz.prog Tryz.f7 Rows.tablesRunsRow.domain false) (Rows.tablesRunsSpec.post enc Tryz.prog Tryz.f7 false true false false) := by
  refine returnsInHanded_of_change_sized (C := Tryz.checked) own started (by kernel_rfl) Tryz.func7
    (ChangeSpec.witness6 (enc := enc) (C := Tryz.checked) false ⟨#[], #[.slice none 0 0], []⟩ 8 (by kernel_rfl) (by kernel_rfl) (by kernel_rfl) (by kernel_rfl)) ?_
  intro W base args ds gs before Ui hW hcnd hsz _
  have hval : ∀(j : Nat) t v, Tryz.f7.params[j]?=some t → args[j]?=some v → Value.okWide Tryz.prog W .any base t v := Ui
  have QU : DataW.Whole enc Tryz.prog Tryz.f7.params.toList Rows.tablesRunsSpec.vars false W args.toList ds gs before := hW
  obtain⟨p, q, US, hV, rfl, hfz, hnd⟩ := QU
  have hA : DataW.TrodAll enc Tryz.prog W 0 (fun _ => true) true Tryz.f7.params.toList args.toList ds p := US
  rw[Tryz.params7]at hA hval
  obtain⟨v0, vs0, d0, ds0, p0, q0, hargs, rfl, rfl, h0, r0⟩ := trodAll_cons hA
  obtain⟨rfl, rfl, rfl⟩ := trodAll_nil r0
  obtain rfl : args=#[v0] := by cases args; simp_all
  obtain⟨n0, l0, I0, N0, Z0⟩ := tb.F5 (hval 0 32 v0 rfl rfl) h0
  have hz := tb.F6 (j := 0) (d := d0) (k := l0.length) hsz rfl rfl (by rcases Z0 with h|h; exact .inl (by rw[h]; rfl); exact .inr h)
  refine(tb.MH W v0 l0 I0 N0 hz).mono fun e W' ⟨he, hg⟩ => ?_
  subst he
  exact⟨_, rfl, frames.IE laidOut par rfl Tryz.underlying4 rfl (fun l hl => by match l, hl with|[_], _ => rfl) hW hg⟩

theorem proved : Rows.TablesRunsSaid :=
  OpenClaim.holds_of_wide 7 Tryz.f7 rfl rfl rfl rfl rfl rfl rfl ⟨rfl, rfl, rfl, rfl, rfl⟩ rfl rfl rfl rfl rfl (by kernel_rfl) Tryz.func7 (by kernel_rfl)
    (of_decide_eq_true (by kernel_rfl)) (by unfold Func.isWrapper; first|(rw[if_pos (by decide +kernel)]; kernel_rfl)|(rw[if_neg (by decide +kernel)]; exact⟨rfl, rfl⟩))
    (fun os started H enc _ => lifted os started H enc)
#print axioms proved
end Go.Proofs.YtfbggmbmgohiiaaGreat.lawTablesRuns
