/- HeapSorts: keys that are sorted by any ranks are each there once, by rank, and of one rank in the order in which they came; what was handed in stays. Conditions: none. -/
import Derived.Test.YtoekaigdacaghaaHr
import Derived.Test.YtoekaigdacaghaaHt
set_option linter.unusedVariables false
set_option linter.unusedSimpArgs false
namespace Go.Proofs.Ytoekaigdacaghaa
open Go.Kern Go.RowKit Go.ChangeShapes

theorem strs_of {l : List AV} (h : (Sh.sl .str false).ok l) : ∃ (k : SK) (zs : List ByteArray), l = [.sl k (strs zs)] ∧ zs.length ≤ maxLen :=
  sl_of AV.str (fun y hy => by obtain ⟨k, rfl, _⟩ := hy; exact ⟨k, rfl⟩) h
theorem chk_strs : ((Sh.sl .str false).chk Try.prog).1 40 = true := by kernel_rfl
theorem chk_ints : ((Sh.sl intSh false).chk Try.prog).1 44 = true := by kernel_rfl
theorem types_strs : Try.prog.readableRec 40 = true ∧ 40 < Try.prog.types.size := ⟨by kernel_rfl, of_decide_eq_true (by kernel_rfl)⟩
theorem types_ints : Try.prog.readableRec 44 = true ∧ 44 < Try.prog.types.size := ⟨by kernel_rfl, of_decide_eq_true (by kernel_rfl)⟩

theorem heapSorts_contract (H : Type) (enc : TypeId × Value → H) (W : World) (base : Nat) (args : Array Value) (ds gs : List (DataW H)) (before : List MemPlace)
    (hok : ∀ (j : Nat) t v, Try.f4.params[j]? = some t → args[j]? = some v → Value.okWide Try.prog W .any base t v)
    (hW : DataW.Whole enc Try.prog Try.f4.params.toList Rows.heapSortsSpec.vars false W args.toList ds gs before) :
    Calls Try.prog 4 args W fun e W' => ∃ v, e = .returned v ∧ Rows.heapSortsSpec.post enc Try.prog Try.f4 false true false false W args v W' := by
  have hA := hW
  obtain ⟨p, q, hA, _⟩ := hA
  have hA2 : DataW.TrodAll enc Try.prog W 0 (fun _ => true) true [40, 44] args.toList ds p := hA
  obtain ⟨v, v', d, d', p1, p2, rfl, rfl, rfl, h0, h1⟩ := trodAll_two hA2
  obtain ⟨l0, o0, r0⟩ := arg_read _ chk_strs (hok 0 _ _ rfl rfl) h0
  obtain ⟨k, l, rfl, _⟩ := strs_of o0
  obtain ⟨l1, o1, r1⟩ := arg_read _ chk_ints (hok 1 _ _ rfl rfl) h1
  obtain ⟨k1, l1, rfl, _⟩ := sl_ints o1
  obtain ⟨hxl, hx⟩ := R_args [.sl k (strs l), .sl k1 (ints l1)] [v, v'] (.cons r0 (.cons r1 .nil))
  refine law_row laid (fun t ht => ?_) (by rfl) Try.underlying4 rfl rfl hW _ hxl hx (sorts_spec k k1 l l1 st0)
  have ht' : t ∈ [40, 44] := ht
  simp only [List.mem_cons, List.not_mem_nil, or_false] at ht'
  rcases ht' with rfl | rfl
  · exact types_strs
  · exact types_ints

set_option maxRecDepth 100000 in
theorem heapSorts_lifted (os : Os) (started : os.Started) (H : Type) (enc : TypeId × Value → H) :
    ReturnsInHanded {} Try.checked os 4 .any (Rows.heapSortsSpec.pre6 enc Try.prog Try.f4 Rows.heapSortsRow.domain false) (Rows.heapSortsSpec.post enc Try.prog Try.f4 false true false false) := by
  refine returnsInHanded_of_change (C := Try.checked) own started (by kernel_rfl) Try.func4
    (ChangeSpec.witness6 (enc := enc) (C := Try.checked) false ⟨#[], #[.slice none 0 0, .slice none 0 0], []⟩ 8 (by kernel_rfl) (by kernel_rfl) (by kernel_rfl) (by kernel_rfl)) ?_
  intro W base args ds gs before hok hW _ _
  exact heapSorts_contract H enc W base args ds gs before hok hW

/-- The given statement. -/
theorem heapSorts_holds : Rows.HeapSortsSaid :=
  OpenClaim.holds_of_wide 4 Try.f4 rfl rfl rfl rfl rfl rfl rfl ⟨rfl, rfl, rfl, rfl, rfl⟩ rfl rfl rfl rfl rfl (by kernel_rfl) Try.func4 (by kernel_rfl)
    (of_decide_eq_true (by kernel_rfl)) (by unfold Func.isWrapper; first | (rw [if_pos (by decide +kernel)]; kernel_rfl) | (rw [if_neg (by decide +kernel)]; exact ⟨rfl, rfl⟩))
    (fun os started H enc _ => heapSorts_lifted os started H enc)
#print axioms heapSorts_holds
end Go.Proofs.Ytoekaigdacaghaa
