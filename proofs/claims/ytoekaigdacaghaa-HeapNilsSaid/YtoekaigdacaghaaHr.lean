/- What operations on heaps are handed in as. Conditions: none. -/
import Derived.Test.YtoekaigdacaghaaHj
import Derived.Test.YtoekaigdacaghaaKnR
import Derived.Test.YtoekaigdacaghaaRows
set_option linter.unusedVariables false
set_option linter.unusedSimpArgs false
namespace Go.Proofs.Ytoekaigdacaghaa
open Go.Kern Go.RowKit Go.ChangeShapes

def opSh : Sh := .cons intSh (.cons intSh (.cons .str .nil))
theorem own : ownKnob Try.prog.godebug = none := by kernel_rfl
theorem laid : laidOutB Try.prog = true := by kernel_rfl
theorem op_of {l : List AV} (h : opSh.ok l) : ∃ o : Op, l = [.int .i64 o.kind, .int .i64 o.r, .str o.k] ∧ o.k.size ≤ maxLen := by
  obtain ⟨x1, r1, rfl, ⟨a, rfl, _⟩, x2, r2, rfl, ⟨b, rfl, _⟩, x3, r3, rfl, ⟨k, rfl, hk⟩, rfl⟩ := h
  exact ⟨⟨a, b, k⟩, rfl, hk⟩
theorem ops_of {l : List AV} (h : (Sh.sl opSh true).ok l) : ∃ (k : SK) (zs : List Op), l = [.sl k (opL zs)] ∧ zs.length ≤ maxLen :=
  sl_of (fun o : Op => AV.agg [.int .i64 o.kind, .int .i64 o.r, .str o.k]) (fun y hy => by obtain ⟨o, rfl, _⟩ := op_of hy; exact ⟨o, rfl⟩) h
theorem chk_ops : ((Sh.sl opSh true).chk Try.prog).1 22 = true := by kernel_rfl
theorem types_ops : Try.prog.readableRec 22 = true ∧ 22 < Try.prog.types.size := ⟨by kernel_rfl, of_decide_eq_true (by kernel_rfl)⟩
end Go.Proofs.Ytoekaigdacaghaa
