/- HeapNils: a nil heap has nothing; keys and ranks may be of any types. Conditions: none. -/
import Derived.Test.YtoekaigdacaghaaHr
import Derived.Test.YtoekaigdacaghaaJe
set_option linter.unusedVariables false
set_option linter.unusedSimpArgs false
namespace Go.Proofs.Ytoekaigdacaghaa
open Go.Kern Go.RowKit Go.ChangeShapes

theorem chk_op : (opSh.chk Try.prog).1 29 = true := by kernel_rfl
theorem types_op : Try.prog.readableRec 29 = true ∧ 29 < Try.prog.types.size := ⟨by kernel_rfl, of_decide_eq_true (by kernel_rfl)⟩

theorem heapNils_contract (H : Type) (enc : TypeId × Value → H) (W : World) (base : Nat) (args : Array Value) (ds gs : List (DataW H)) (before : List MemPlace)
    (hok : ∀ (j : Nat) t v, Try.f7.params[j]? = some t → args[j]? = some v → Value.okWide Try.prog W .any base t v)
    (hW : DataW.Whole enc Try.prog Try.f7.params.toList Rows.heapNilsSpec.vars false W args.toList ds gs before) :
    Calls Try.prog 7 args W fun e W' => ∃ v, e = .returned v ∧ Rows.heapNilsSpec.post enc Try.prog Try.f7 false true false false W args v W' := by
  have hA := hW
  obtain ⟨p, q, hA, _⟩ := hA
  have hA2 : DataW.TrodAll enc Try.prog W 0 (fun _ => true) true [29] args.toList ds p := hA
  obtain ⟨v, d, rfl, rfl, h0⟩ := trodAll_one hA2
  obtain ⟨l0, o0, r0⟩ := arg_read _ chk_op (hok 0 _ _ rfl rfl) h0
  obtain ⟨o, rfl, _⟩ := op_of o0
  obtain ⟨hxl, hx⟩ := R_args [.agg [.int .i64 o.kind, .int .i64 o.r, .str o.k]] [v] (.cons r0 .nil)
  refine law_row laid (fun t ht => ?_) (by rfl) Try.underlying4 rfl rfl hW _ hxl hx (nils_spec o.kind o.r o.k st0)
  have ht' : t ∈ [29] := ht
  obtain rfl : t = 29 := by simpa using ht'
  exact types_op

set_option maxRecDepth 100000 in
theorem heapNils_lifted (os : Os) (started : os.Started) (H : Type) (enc : TypeId × Value → H) :
    ReturnsInHanded {} Try.checked os 7 .any (Rows.heapNilsSpec.pre6 enc Try.prog Try.f7 Rows.heapNilsRow.domain false) (Rows.heapNilsSpec.post enc Try.prog Try.f7 false true false false) := by
  refine returnsInHanded_of_change (C := Try.checked) own started (by kernel_rfl) Try.func7
    (ChangeSpec.witness6 (enc := enc) (C := Try.checked) false ⟨#[], #[.agg #[.int .i64 0, .int .i64 0, .string ⟨#[]⟩]], []⟩ 8 (by kernel_rfl) (by kernel_rfl) (by kernel_rfl) (by kernel_rfl)) ?_
  intro W base args ds gs before hok hW _ _
  exact heapNils_contract H enc W base args ds gs before hok hW

/-- The given statement. -/
theorem heapNils_holds : Rows.HeapNilsSaid :=
  OpenClaim.holds_of_wide 7 Try.f7 rfl rfl rfl rfl rfl rfl rfl ⟨rfl, rfl, rfl, rfl, rfl⟩ rfl rfl rfl rfl rfl (by kernel_rfl) Try.func7 (by kernel_rfl)
    (of_decide_eq_true (by kernel_rfl)) (by unfold Func.isWrapper; first | (rw [if_pos (by decide +kernel)]; kernel_rfl) | (rw [if_neg (by decide +kernel)]; exact ⟨rfl, rfl⟩))
    (fun os started H enc _ => heapNils_lifted os started H enc)
#print axioms heapNils_holds
end Go.Proofs.Ytoekaigdacaghaa
