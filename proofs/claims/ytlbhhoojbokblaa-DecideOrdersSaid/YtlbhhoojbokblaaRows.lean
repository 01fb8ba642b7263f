/-
  No cell of these rows narrows 'for every input' (looked for: loops, veiled, ifaces, maps, wideKeys, modest, calm, conditions, laid).
  DERIVED. THE GIVEN ROWS OF THIS SEAT. 4 by the template 'for every input the law returns true; each argument reads behind the call as it read before'; 0 by the template 'total and deterministic' (their statements: YtlbhhoojbokblaaTotals.lean).
  GIVEN WITH THE SEED: the statements are not yours to turn. If you find one false, say at which input.
  Laid BY PROGRAM, IN A SANDBOX (cutbox-rows.mjs): the forced cells as the released guide's own fill.sh prints them over the translation f886b5dbbfd3a569… (all of the seat's roots in one cut). By AI agents, Wed Nov 11 2026. No macro, syntax, notation, axiom, sorry.
-/
import Derived.Test.YtlbhhoojbokblaaChecked
import GoSem.Claim
import GoSem.ClaimJoined
import GoSem.ClaimMapViews
import Derived.JoinedTies
import Derived.KernelRfl
namespace Go.Proofs.Ytlbhhoojbokblaa
/- THE CELL 'sum', in the pinned program and in every row, IS THE sha256 OF THE DUMP (.gsa) THAT YtlbhhoojbokblaaProg.lean LOADS. Nothing in Lean hashes anything: it is a label: what it is worth is what the hold of that sum in a sandbox is worth. -/
noncomputable def Try.pinned : Pinned := { name := "ytlbhhoojbokblaa", sum := "f886b5dbbfd3a56950d19a143ef05dfe96ab8ba9b8ad8d0f79294f0b54ab0a4a", checked := Try.checked }
namespace Rows
def none {H : Type} : Left H := { results := [], args := [] }

/-- 'whirligiglaw18.DecideHolds': WHATEVER THE INPUT: true; the input reads as it did. -/
def decideHoldsSpec : ChangeSpec := { name := "decideHolds", fn := fun _ => fun
  | [d1, d2] => { results := [.lit (.bool true)], args := [d1, d2] }
  | _ => none }
def decideHoldsRow : OpenClaim := { program := "ytlbhhoojbokblaa", sum := "f886b5dbbfd3a56950d19a143ef05dfe96ab8ba9b8ad8d0f79294f0b54ab0a4a", func := "whirligig/whirligiglaw18.DecideHolds", spec := "decideHolds", unfollowed := true, recurses := true, apart := false }
def DecideHoldsSaid : Prop := decideHoldsRow.holds Try.pinned (OpenSpec.ofChange decideHoldsSpec)

/-- ITS FALSE NEIGHBOUR: 'it returns false'. Refute it at one input. -/
def decideHoldsWrong : ChangeSpec := { name := "decideHolds", fn := fun _ => fun
  | [d1, d2] => { results := [.lit (.bool false)], args := [d1, d2] }
  | _ => none }
def DecideHoldsWrongFalsely : Prop := decideHoldsRow.holds Try.pinned (OpenSpec.ofChange decideHoldsWrong)

/-- 'whirligiglaw18.DecideThree': WHATEVER THE INPUT: true; the input reads as it did. -/
def decideThreeSpec : ChangeSpec := { name := "decideThree", fn := fun _ => fun
  | [d1, d2, d3] => { results := [.lit (.bool true)], args := [d1, d2, d3] }
  | _ => none }
def decideThreeRow : OpenClaim := { program := "ytlbhhoojbokblaa", sum := "f886b5dbbfd3a56950d19a143ef05dfe96ab8ba9b8ad8d0f79294f0b54ab0a4a", func := "whirligig/whirligiglaw18.DecideThree", spec := "decideThree", unfollowed := true, recurses := true, apart := false }
def DecideThreeSaid : Prop := decideThreeRow.holds Try.pinned (OpenSpec.ofChange decideThreeSpec)

/-- ITS FALSE NEIGHBOUR: 'it returns false'. Refute it at one input. -/
def decideThreeWrong : ChangeSpec := { name := "decideThree", fn := fun _ => fun
  | [d1, d2, d3] => { results := [.lit (.bool false)], args := [d1, d2, d3] }
  | _ => none }
def DecideThreeWrongFalsely : Prop := decideThreeRow.holds Try.pinned (OpenSpec.ofChange decideThreeWrong)

/-- 'whirligiglaw18.DecideOrders': WHATEVER THE INPUT: true; the input reads as it did. -/
def decideOrdersSpec : ChangeSpec := { name := "decideOrders", fn := fun _ => fun
  | [d] => { results := [.lit (.bool true)], args := [d] }
  | _ => none }
def decideOrdersRow : OpenClaim := { program := "ytlbhhoojbokblaa", sum := "f886b5dbbfd3a56950d19a143ef05dfe96ab8ba9b8ad8d0f79294f0b54ab0a4a", func := "whirligig/whirligiglaw18.DecideOrders", spec := "decideOrders", unfollowed := true, recurses := true, apart := false }
def DecideOrdersSaid : Prop := decideOrdersRow.holds Try.pinned (OpenSpec.ofChange decideOrdersSpec)

/-- ITS FALSE NEIGHBOUR: 'it returns false'. Refute it at one input. -/
def decideOrdersWrong : ChangeSpec := { name := "decideOrders", fn := fun _ => fun
  | [d] => { results := [.lit (.bool false)], args := [d] }
  | _ => none }
def DecideOrdersWrongFalsely : Prop := decideOrdersRow.holds Try.pinned (OpenSpec.ofChange decideOrdersWrong)

/-- 'whirligiglaw18.DecideStays': WHATEVER THE INPUT: true; the input reads as it did. -/
def decideStaysSpec : ChangeSpec := { name := "decideStays", fn := fun _ => fun
  | [d1, d2, d3] => { results := [.lit (.bool true)], args := [d1, d2, d3] }
  | _ => none }
def decideStaysRow : OpenClaim := { program := "ytlbhhoojbokblaa", sum := "f886b5dbbfd3a56950d19a143ef05dfe96ab8ba9b8ad8d0f79294f0b54ab0a4a", func := "whirligig/whirligiglaw18.DecideStays", spec := "decideStays", unfollowed := true, recurses := true, apart := false }
def DecideStaysSaid : Prop := decideStaysRow.holds Try.pinned (OpenSpec.ofChange decideStaysSpec)

/-- ITS FALSE NEIGHBOUR: 'it returns false'. Refute it at one input. -/
def decideStaysWrong : ChangeSpec := { name := "decideStays", fn := fun _ => fun
  | [d1, d2, d3] => { results := [.lit (.bool false)], args := [d1, d2, d3] }
  | _ => none }
def DecideStaysWrongFalsely : Prop := decideStaysRow.holds Try.pinned (OpenSpec.ofChange decideStaysWrong)

/- THE SECOND FORM. 'bulk': how many values and letters a reading holds, each counted each time it is reached (what is shared counts as often as it is met; a slice's spare places count too). A statement '..UptoSaid' is the law's where the arguments, and the package variables that the reading takes, are together of bulk at most 1048576: NARROWER than '..Said'. Prove '..Said' where nothing that the law and all that it calls make is longer than what came in: it says more and counts as full. Else prove '..UptoSaid'. A law counts once. -/
mutual
def uptoBulk {H : Type} : DataW H → Nat
  | .lit (.string bytes) => bytes.length + 1
  | .lit _ => 1
  | .nil => 1
  | .ptr d => uptoBulk d + 1
  | .slice elems spare => uptoBulkAll elems + uptoBulkAll spare + 1
  | .agg parts => uptoBulkAll parts + 1
  | .iface _ d => uptoBulk d + 1
  | .map entries => uptoBulkEntries entries + 1
  | .held _ => 1
def uptoBulkAll {H : Type} : List (DataW H) → Nat
  | [] => 0
  | d :: r => uptoBulk d + uptoBulkAll r
def uptoBulkEntries {H : Type} : List (Lit × DataW H) → Nat
  | [] => 0
  | x :: r => uptoBulkEntry x + uptoBulkEntries r
def uptoBulkEntry {H : Type} : Lit × DataW H → Nat
  | (.string bytes, d) => bytes.length + uptoBulk d + 1
  | (_, d) => uptoBulk d + 1
 end
def uptoSmall : (H : Type) → List (DataW H) → Bool := fun _ ds => decide (uptoBulkAll ds ≤ 1048576)
def OpenSpec.upto (s : _root_.Go.ChangeSpec) : _root_.Go.OpenSpec := { _root_.Go.OpenSpec.ofChange s with cond := some uptoSmall }

/-- 'whirligiglaw18.DecideHolds', WHERE WHAT IT READS IS OF BULK AT MOST 1048576: true; the input reads as it did. -/
def decideHoldsUptoRow : OpenClaim := { program := "ytlbhhoojbokblaa", sum := "f886b5dbbfd3a56950d19a143ef05dfe96ab8ba9b8ad8d0f79294f0b54ab0a4a", func := "whirligig/whirligiglaw18.DecideHolds", spec := "decideHolds", unfollowed := true, recurses := true, apart := false, narrowed := true }
def DecideHoldsUptoSaid : Prop := decideHoldsUptoRow.holds Try.pinned (OpenSpec.upto decideHoldsSpec)

/-- 'whirligiglaw18.DecideThree', WHERE WHAT IT READS IS OF BULK AT MOST 1048576: true; the input reads as it did. -/
def decideThreeUptoRow : OpenClaim := { program := "ytlbhhoojbokblaa", sum := "f886b5dbbfd3a56950d19a143ef05dfe96ab8ba9b8ad8d0f79294f0b54ab0a4a", func := "whirligig/whirligiglaw18.DecideThree", spec := "decideThree", unfollowed := true, recurses := true, apart := false, narrowed := true }
def DecideThreeUptoSaid : Prop := decideThreeUptoRow.holds Try.pinned (OpenSpec.upto decideThreeSpec)

/-- 'whirligiglaw18.DecideOrders', WHERE WHAT IT READS IS OF BULK AT MOST 1048576: true; the input reads as it did. -/
def decideOrdersUptoRow : OpenClaim := { program := "ytlbhhoojbokblaa", sum := "f886b5dbbfd3a56950d19a143ef05dfe96ab8ba9b8ad8d0f79294f0b54ab0a4a", func := "whirligig/whirligiglaw18.DecideOrders", spec := "decideOrders", unfollowed := true, recurses := true, apart := false, narrowed := true }
def DecideOrdersUptoSaid : Prop := decideOrdersUptoRow.holds Try.pinned (OpenSpec.upto decideOrdersSpec)

/-- 'whirligiglaw18.DecideStays', WHERE WHAT IT READS IS OF BULK AT MOST 1048576: true; the input reads as it did. -/
def decideStaysUptoRow : OpenClaim := { program := "ytlbhhoojbokblaa", sum := "f886b5dbbfd3a56950d19a143ef05dfe96ab8ba9b8ad8d0f79294f0b54ab0a4a", func := "whirligig/whirligiglaw18.DecideStays", spec := "decideStays", unfollowed := true, recurses := true, apart := false, narrowed := true }
def DecideStaysUptoSaid : Prop := decideStaysUptoRow.holds Try.pinned (OpenSpec.upto decideStaysSpec)

end Rows
end Go.Proofs.Ytlbhhoojbokblaa
