/- DecideHolds: which of any two is better, and by which rule, is the document's; turned round it is turned. Conditions: none. -/
import Derived.Test.YtlbhhoojbokblaaAh
import Derived.Test.YtlbhhoojbokblaaAn
set_option linter.unusedVariables false
set_option linter.unusedSimpArgs false
namespace Go.Proofs.Ytlbhhoojbokblaa
open Go.Kern Go.RowKit Go.ChangeShapes

theorem holds_contract (H : Type) (enc : TypeId × Value → H) (W : World) (args : Array Value) (ds gs : List (DataW H)) (before : List MemPlace)
    (hW : DataW.Whole enc Try.prog Try.f3.params.toList Rows.decideHoldsSpec.vars false W args.toList ds gs before) :
    Calls Try.prog 3 args W fun e W' => ∃ v, e = .returned v ∧ Rows.decideHoldsSpec.post enc Try.prog Try.f3 false true false false W args v W' := by
  have hA := hW
  obtain ⟨p, q, hA, _⟩ := hA
  have hA2 : DataW.TrodAll enc Try.prog W 0 (fun _ => true) true [29, 29] args.toList ds p := hA
  obtain ⟨v, v', d, d', p1, p2, rfl, rfl, rfl, h0, h1⟩ := trodAll_two hA2
  obtain ⟨a, ra⟩ := cand_read h0
  obtain ⟨b, rb⟩ := cand_read h1
  obtain ⟨hxl, hx⟩ := R_args [.agg a.cells, .agg b.cells] [v, v'] (.cons ra (.cons rb .nil))
  refine law_row laid (fun t ht => ?_) (by rfl) Try.underlying4 rfl rfl hW _ hxl hx (holds_spec a b st0)
  have ht' : t ∈ [29, 29] := ht
  obtain rfl : t = 29 := by simpa using ht'
  exact types_cand

set_option maxRecDepth 100000 in
theorem holds_lifted (os : Os) (started : os.Started) (H : Type) (enc : TypeId × Value → H) :
    ReturnsInHanded {} Try.checked os 3 .any (Rows.decideHoldsSpec.pre6 enc Try.prog Try.f3 Rows.decideHoldsRow.domain false) (Rows.decideHoldsSpec.post enc Try.prog Try.f3 false true false false) := by
  refine returnsInHanded_of_change (C := Try.checked) own started (by kernel_rfl) Try.func3
    (ChangeSpec.witness6 (enc := enc) (C := Try.checked) false ⟨#[], #[zeroCand, zeroCand], []⟩ 8 (by kernel_rfl) (by kernel_rfl) (by kernel_rfl) (by kernel_rfl)) ?_
  intro W base args ds gs before _ hW _ _
  exact holds_contract H enc W args ds gs before hW

/-- The given statement. -/
theorem decideHolds_holds : Rows.DecideHoldsSaid :=
  OpenClaim.holds_of_wide 3 Try.f3 rfl rfl rfl rfl rfl rfl rfl ⟨rfl, rfl, rfl, rfl, rfl⟩ rfl rfl rfl rfl rfl (by kernel_rfl) Try.func3 (by kernel_rfl)
    (of_decide_eq_true (by kernel_rfl)) (by unfold Func.isWrapper; first | (rw [if_pos (by decide +kernel)]; kernel_rfl) | (rw [if_neg (by decide +kernel)]; exact ⟨rfl, rfl⟩))
    (fun os started H enc _ => holds_lifted os started H enc)
#print axioms decideHolds_holds
end Go.Proofs.Ytlbhhoojbokblaa
