/- HeapTurned: by the order turned round the first ones are the greatest; without an order they come as they were set. Conditions: none. -/
import Derived.Test.YtoekaigdacaghaaHr
import Derived.Test.YtoekaigdacaghaaHx
set_option linter.unusedVariables false
set_option linter.unusedSimpArgs false
namespace Go.Proofs.Ytoekaigdacaghaa
open Go.Kern Go.RowKit Go.ChangeShapes

theorem heapTurned_contract (H : Type) (enc : TypeId × Value → H) (W : World) (base : Nat) (args : Array Value) (ds gs : List (DataW H)) (before : List MemPlace)
    (hok : ∀ (j : Nat) t v, Try.f3.params[j]? = some t → args[j]? = some v → Value.okWide Try.prog W .any base t v)
    (hW : DataW.Whole enc Try.prog Try.f3.params.toList Rows.heapTurnedSpec.vars false W args.toList ds gs before) :
    Calls Try.prog 3 args W fun e W' => ∃ v, e = .returned v ∧ Rows.heapTurnedSpec.post enc Try.prog Try.f3 false true false false W args v W' := by
  have hA := hW
  obtain ⟨p, q, hA, _⟩ := hA
  have hA2 : DataW.TrodAll enc Try.prog W 0 (fun _ => true) true [22] args.toList ds p := hA
  obtain ⟨v, d, rfl, rfl, h0⟩ := trodAll_one hA2
  obtain ⟨l0, o0, r0⟩ := arg_read _ chk_ops (hok 0 _ _ rfl rfl) h0
  obtain ⟨k, l, rfl, _⟩ := ops_of o0
  obtain ⟨hxl, hx⟩ := R_args [.sl k (opL l)] [v] (.cons r0 .nil)
  refine law_row laid (fun t ht => ?_) (by rfl) Try.underlying4 rfl rfl hW _ hxl hx (turned_spec k l st0)
  have ht' : t ∈ [22] := ht
  obtain rfl : t = 22 := by simpa using ht'
  exact types_ops

set_option maxRecDepth 100000 in
theorem heapTurned_lifted (os : Os) (started : os.Started) (H : Type) (enc : TypeId × Value → H) :
    ReturnsInHanded {} Try.checked os 3 .any (Rows.heapTurnedSpec.pre6 enc Try.prog Try.f3 Rows.heapTurnedRow.domain false) (Rows.heapTurnedSpec.post enc Try.prog Try.f3 false true false false) := by
  refine returnsInHanded_of_change (C := Try.checked) own started (by kernel_rfl) Try.func3
    (ChangeSpec.witness6 (enc := enc) (C := Try.checked) false ⟨#[], #[.slice none 0 0], []⟩ 8 (by kernel_rfl) (by kernel_rfl) (by kernel_rfl) (by kernel_rfl)) ?_
  intro W base args ds gs before hok hW _ _
  exact heapTurned_contract H enc W base args ds gs before hok hW

/-- The given statement. -/
theorem heapTurned_holds : Rows.HeapTurnedSaid :=
  OpenClaim.holds_of_wide 3 Try.f3 rfl rfl rfl rfl rfl rfl rfl ⟨rfl, rfl, rfl, rfl, rfl⟩ rfl rfl rfl rfl rfl (by kernel_rfl) Try.func3 (by kernel_rfl)
    (of_decide_eq_true (by kernel_rfl)) (by unfold Func.isWrapper; first | (rw [if_pos (by decide +kernel)]; kernel_rfl) | (rw [if_neg (by decide +kernel)]; exact ⟨rfl, rfl⟩))
    (fun os started H enc _ => heapTurned_lifted os started H enc)
#print axioms heapTurned_holds
end Go.Proofs.Ytoekaigdacaghaa
