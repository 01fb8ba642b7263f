/- ShowOnes: the text of a configuration is the texts of its lists, of its maps, and of its routers, one behind the other. Conditions: none. -/
import Derived.Test.YtaealcimocpnnaaGreatBy
set_option linter.unusedVariables false
set_option linter.unusedSimpArgs false
namespace Go.Proofs.YtaealcimocpnnaaGreat
open Go.Kern Go.RowKit Go.ChangeShapes
theorem ones_contract (H : Type) (enc : TypeId × Value → H) (W : World) (args : Array Value) (ds gs : List (DataW H)) (before : List MemPlace)
    (hW : DataW.Whole enc Tryz.prog Tryz.f4.params.toList Rows.showOnesSpec.vars false W args.toList ds gs before) :
    Calls Tryz.prog 4 args W fun e W' => ∃ v, e = .returned v ∧ Rows.showOnesSpec.post enc Tryz.prog Tryz.f4 false true false false W args v W' := by
  have hA := hW
  obtain ⟨p, q, hA, _⟩ := hA
  have hA2 : DataW.TrodAll enc Tryz.prog W 0 (fun _ => true) true [26] args.toList ds p := hA
  obtain ⟨v, d, rfl, rfl, h0⟩ := trodAll_one hA2
  obtain ⟨c, hc, rc⟩ := cfg_read h0
  obtain ⟨hxl, hx⟩ := R_args [eCfg c] [v] (.cons rc .nil)
  refine law_row laid (fun t ht => ?_) (by rfl) Tryz.underlying4 rfl rfl hW _ hxl hx (ones_spec c hc st0)
  have ht' : t ∈ [26] := ht
  obtain rfl : t = 26 := by simpa using ht'
  exact types_cfg

set_option maxRecDepth 100000 in
theorem ones_lifted (os : Os) (started : os.Started) (H : Type) (enc : TypeId × Value → H) :
    ReturnsInHanded {} Tryz.checked os 4 .any (Rows.showOnesSpec.pre6 enc Tryz.prog Tryz.f4 Rows.showOnesRow.domain false) (Rows.showOnesSpec.post enc Tryz.prog Tryz.f4 false true false false) := by
  refine returnsInHanded_of_change (C := Tryz.checked) own started (by kernel_rfl) Tryz.func4
    (ChangeSpec.witness6 (enc := enc) (C := Tryz.checked) false ⟨#[], #[.agg #[.slice none 0 0, .slice none 0 0, .slice none 0 0]], []⟩ 8 (by kernel_rfl) (by kernel_rfl) (by kernel_rfl) (by kernel_rfl)) ?_
  intro W base args ds gs before _ hW _ _
  exact ones_contract H enc W args ds gs before hW

/-- The given statement. -/
theorem showOnes_holds : Rows.ShowOnesSaid :=
  OpenClaim.holds_of_wide 4 Tryz.f4 rfl rfl rfl rfl rfl rfl rfl ⟨rfl, rfl, rfl, rfl, rfl⟩ rfl rfl rfl rfl rfl (by kernel_rfl) Tryz.func4 (by kernel_rfl)
    (of_decide_eq_true (by kernel_rfl)) (by unfold Func.isWrapper; first | (rw [if_pos (by decide +kernel)]; kernel_rfl) | (rw [if_neg (by decide +kernel)]; exact ⟨rfl, rfl⟩))
    (fun os started H enc _ => ones_lifted os started H enc)
#print axioms showOnes_holds
end Go.Proofs.YtaealcimocpnnaaGreat
