/- DecideStays: the best one stays the best, when others go, and when one comes that isn't better. Conditions: none. -/
import Derived.Test.YtlbhhoojbokblaaAh
import Derived.Test.YtlbhhoojbokblaaAr
set_option linter.unusedVariables false
set_option linter.unusedSimpArgs false
namespace Go.Proofs.Ytlbhhoojbokblaa
open Go.Kern Go.RowKit Go.ChangeShapes

theorem chk_cands : ((Sh.sl candSh true).chk Try.prog).1 31 = true := by kernel_rfl
theorem chk_int : (intSh.chk Try.prog).1 3 = true := by kernel_rfl
theorem types_cands : Try.prog.readableRec 31 = true ∧ 31 < Try.prog.types.size := ⟨by kernel_rfl, of_decide_eq_true (by kernel_rfl)⟩
theorem types_int : Try.prog.readableRec 3 = true ∧ 3 < Try.prog.types.size := ⟨by kernel_rfl, of_decide_eq_true (by kernel_rfl)⟩
theorem cands_of {l : List AV} (h : (Sh.sl candSh true).ok l) : ∃ (k : SK) (zs : List Cand), l = [.sl k (cands zs)] ∧ zs.length ≤ maxLen :=
  sl_of (fun c : Cand => AV.agg c.cells) (fun y hy => by obtain ⟨c, rfl⟩ := cand_of hy; exact ⟨c, rfl⟩) h

theorem stays_contract (H : Type) (enc : TypeId × Value → H) (W : World) (base : Nat) (args : Array Value) (ds gs : List (DataW H)) (before : List MemPlace)
    (hok : ∀ (j : Nat) t v, Try.f6.params[j]? = some t → args[j]? = some v → Value.okWide Try.prog W .any base t v)
    (hW : DataW.Whole enc Try.prog Try.f6.params.toList Rows.decideStaysSpec.vars false W args.toList ds gs before) :
    Calls Try.prog 6 args W fun e W' => ∃ v, e = .returned v ∧ Rows.decideStaysSpec.post enc Try.prog Try.f6 false true false false W args v W' := by
  have hA := hW
  obtain ⟨p, q, hA, _⟩ := hA
  have hA2 : DataW.TrodAll enc Try.prog W 0 (fun _ => true) true [31, 29, 3] args.toList ds p := hA
  obtain ⟨v, v', v'', d, d', d'', p1, p2, p3, rfl, rfl, rfl, h0, h1, h2⟩ := trodAll_three hA2
  obtain ⟨l0, o0, r0⟩ := arg_read _ chk_cands (hok 0 _ _ rfl rfl) h0
  obtain ⟨k, l, rfl, _⟩ := cands_of o0
  obtain ⟨c, rc⟩ := cand_read h1
  obtain ⟨l2, o2, r2⟩ := arg_read _ chk_int (hok 2 _ _ rfl rfl) h2
  obtain ⟨n, rfl, _⟩ := o2
  obtain ⟨hxl, hx⟩ := R_args [.sl k (cands l), .agg c.cells, .int .i64 n] [v, v', v''] (.cons r0 (.cons rc (.cons r2 .nil)))
  refine law_row laid (fun t ht => ?_) (by rfl) Try.underlying4 rfl rfl hW _ hxl hx (stays_spec k l c n st0)
  have ht' : t ∈ [31, 29, 3] := ht
  simp only [List.mem_cons, List.not_mem_nil, or_false] at ht'
  rcases ht' with rfl | rfl | rfl
  · exact types_cands
  · exact types_cand
  · exact types_int

set_option maxRecDepth 100000 in
theorem stays_lifted (os : Os) (started : os.Started) (H : Type) (enc : TypeId × Value → H) :
    ReturnsInHanded {} Try.checked os 6 .any (Rows.decideStaysSpec.pre6 enc Try.prog Try.f6 Rows.decideStaysRow.domain false) (Rows.decideStaysSpec.post enc Try.prog Try.f6 false true false false) := by
  refine returnsInHanded_of_change (C := Try.checked) own started (by kernel_rfl) Try.func6
    (ChangeSpec.witness6 (enc := enc) (C := Try.checked) false ⟨#[], #[.slice none 0 0, zeroCand, .int .i64 0], []⟩ 8 (by kernel_rfl) (by kernel_rfl) (by kernel_rfl) (by kernel_rfl)) ?_
  intro W base args ds gs before hok hW _ _
  exact stays_contract H enc W base args ds gs before hok hW

/-- The given statement. -/
theorem decideStays_holds : Rows.DecideStaysSaid :=
  OpenClaim.holds_of_wide 6 Try.f6 rfl rfl rfl rfl rfl rfl rfl ⟨rfl, rfl, rfl, rfl, rfl⟩ rfl rfl rfl rfl rfl (by kernel_rfl) Try.func6 (by kernel_rfl)
    (of_decide_eq_true (by kernel_rfl)) (by unfold Func.isWrapper; first | (rw [if_pos (by decide +kernel)]; kernel_rfl) | (rw [if_neg (by decide +kernel)]; exact ⟨rfl, rfl⟩))
    (fun os started H enc _ => stays_lifted os started H enc)
#print axioms decideStays_holds
end Go.Proofs.Ytlbhhoojbokblaa
