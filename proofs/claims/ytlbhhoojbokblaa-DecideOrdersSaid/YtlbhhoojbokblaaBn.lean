/- DecideOrders: which candidates are fit, which is the best, and in which order they are, are the document's. Conditions: none. -/
import Derived.Test.YtlbhhoojbokblaaAh
import Derived.Test.YtlbhhoojbokblaaBm
set_option linter.unusedVariables false
set_option linter.unusedSimpArgs false
namespace Go.Proofs.Ytlbhhoojbokblaa
open Go.Kern Go.RowKit Go.ChangeShapes

theorem chk_cands : ((Sh.sl candSh true).chk Try.prog).1 31 = true := by kernel_rfl
theorem types_cands : Try.prog.readableRec 31 = true ∧ 31 < Try.prog.types.size := ⟨by kernel_rfl, of_decide_eq_true (by kernel_rfl)⟩
theorem cands_of {l : List AV} (h : (Sh.sl candSh true).ok l) : ∃ (k : SK) (zs : List Cand), l = [.sl k (cands zs)] ∧ zs.length ≤ maxLen :=
  sl_of (fun c : Cand => AV.agg c.cells) (fun y hy => by obtain ⟨c, rfl⟩ := cand_of hy; exact ⟨c, rfl⟩) h

theorem orders_contract (H : Type) (enc : TypeId × Value → H) (W : World) (base : Nat) (args : Array Value) (ds gs : List (DataW H)) (before : List MemPlace)
    (hok : ∀ (j : Nat) t v, Try.f5.params[j]? = some t → args[j]? = some v → Value.okWide Try.prog W .any base t v)
    (hW : DataW.Whole enc Try.prog Try.f5.params.toList Rows.decideOrdersSpec.vars false W args.toList ds gs before) :
    Calls Try.prog 5 args W fun e W' => ∃ v, e = .returned v ∧ Rows.decideOrdersSpec.post enc Try.prog Try.f5 false true false false W args v W' := by
  have hA := hW
  obtain ⟨p, q, hA, _⟩ := hA
  have hA2 : DataW.TrodAll enc Try.prog W 0 (fun _ => true) true [31] args.toList ds p := hA
  obtain ⟨v, d, rfl, rfl, h0⟩ := trodAll_one hA2
  obtain ⟨l0, o0, r0⟩ := arg_read _ chk_cands (hok 0 _ _ rfl rfl) h0
  obtain ⟨k, l, rfl, _⟩ := cands_of o0
  obtain ⟨hxl, hx⟩ := R_args [.sl k (cands l)] [v] (.cons r0 .nil)
  refine law_row laid (fun t ht => ?_) (by rfl) Try.underlying4 rfl rfl hW _ hxl hx (orders_spec k l st0)
  have ht' : t ∈ [31] := ht
  simp only [List.mem_cons, List.not_mem_nil, or_false] at ht'
  subst ht'
  exact types_cands

set_option maxRecDepth 100000 in
theorem orders_lifted (os : Os) (started : os.Started) (H : Type) (enc : TypeId × Value → H) :
    ReturnsInHanded {} Try.checked os 5 .any (Rows.decideOrdersSpec.pre6 enc Try.prog Try.f5 Rows.decideOrdersRow.domain false) (Rows.decideOrdersSpec.post enc Try.prog Try.f5 false true false false) := by
  refine returnsInHanded_of_change (C := Try.checked) own started (by kernel_rfl) Try.func5
    (ChangeSpec.witness6 (enc := enc) (C := Try.checked) false ⟨#[], #[.slice none 0 0], []⟩ 8 (by kernel_rfl) (by kernel_rfl) (by kernel_rfl) (by kernel_rfl)) ?_
  intro W base args ds gs before hok hW _ _
  exact orders_contract H enc W base args ds gs before hok hW

/-- The given statement. -/
theorem decideOrders_holds : Rows.DecideOrdersSaid :=
  OpenClaim.holds_of_wide 5 Try.f5 rfl rfl rfl rfl rfl rfl rfl ⟨rfl, rfl, rfl, rfl, rfl⟩ rfl rfl rfl rfl rfl (by kernel_rfl) Try.func5 (by kernel_rfl)
    (of_decide_eq_true (by kernel_rfl)) (by unfold Func.isWrapper; first | (rw [if_pos (by decide +kernel)]; kernel_rfl) | (rw [if_neg (by decide +kernel)]; exact ⟨rfl, rfl⟩))
    (fun os started H enc _ => orders_lifted os started H enc)
#print axioms decideOrders_holds
end Go.Proofs.Ytlbhhoojbokblaa
