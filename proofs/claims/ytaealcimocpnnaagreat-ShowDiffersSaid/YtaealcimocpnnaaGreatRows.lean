/-
  No cell of these rows narrows 'for every input' (looked for: loops, veiled, ifaces, maps, wideKeys, modest, calm, conditions, laid).
  DERIVED. THE GIVEN ROWS OF THIS SEAT. 3 by the template 'for every input the law returns true; each argument reads behind the call as it read before'; 0 by the template 'total and deterministic' (their statements: YtaealcimocpnnaaGreatTotals.lean).
  GIVEN WITH THE SEED: the statements are not yours to turn. If you find one false, say at which input.
  Laid BY PROGRAM, IN A SANDBOX (cutbox-rows.mjs): the forced cells as the released guide's own fill.sh prints them over the translation aa7705389c135862… (all of the seat's roots in one cut). By AI agents, Wed Nov 11 2026. No macro, syntax, notation, axiom, sorry.
-/
import Derived.Test.YtaealcimocpnnaaGreatChecked
import GoSem.Claim
import GoSem.ClaimJoined
import GoSem.ClaimMapViews
import Derived.JoinedTies
import Derived.KernelRfl
namespace Go.Proofs.YtaealcimocpnnaaGreat
/- THE CELL 'sum', in the pinned program and in every row, IS THE sha256 OF THE DUMP (.gsa) THAT YtaealcimocpnnaaGreatProg.lean LOADS. Nothing in Lean hashes anything: it is a label: what it is worth is what the hold of that sum in a sandbox is worth. -/
noncomputable def Tryz.pinned : Pinned := { name := "ytaealcimocpnnaagreat", sum := "aa7705389c1358626b18a9427aad42c4874ec454229b5c90da67444a995f047a", checked := Tryz.checked }
namespace Rows
def none {H : Type} : Left H := { results := [], args := [] }

/-- 'whirligiglaw13.ShowPrints': WHATEVER THE INPUT: true; the input reads as it did. -/
def showPrintsSpec : ChangeSpec := { name := "showPrints", fn := fun _ => fun
  | [d] => { results := [.lit (.bool true)], args := [d] }
  | _ => none }
def showPrintsRow : OpenClaim := { program := "ytaealcimocpnnaagreat", sum := "aa7705389c1358626b18a9427aad42c4874ec454229b5c90da67444a995f047a", func := "whirligig/whirligiglaw13.ShowPrints", spec := "showPrints", inPlace := ["internal/abi.NoEscape", "internal/bytealg.MakeNoZero"], unfollowed := true, recurses := true, apart := false }
def ShowPrintsSaid : Prop := showPrintsRow.holds Tryz.pinned (OpenSpec.ofChange showPrintsSpec)

/-- ITS FALSE NEIGHBOUR: 'it returns false'. Refute it at one input. -/
def showPrintsWrong : ChangeSpec := { name := "showPrints", fn := fun _ => fun
  | [d] => { results := [.lit (.bool false)], args := [d] }
  | _ => none }
def ShowPrintsWrongFalsely : Prop := showPrintsRow.holds Tryz.pinned (OpenSpec.ofChange showPrintsWrong)

/-- 'whirligiglaw13.ShowOnes': WHATEVER THE INPUT: true; the input reads as it did. -/
def showOnesSpec : ChangeSpec := { name := "showOnes", fn := fun _ => fun
  | [d] => { results := [.lit (.bool true)], args := [d] }
  | _ => none }
def showOnesRow : OpenClaim := { program := "ytaealcimocpnnaagreat", sum := "aa7705389c1358626b18a9427aad42c4874ec454229b5c90da67444a995f047a", func := "whirligig/whirligiglaw13.ShowOnes", spec := "showOnes", inPlace := ["internal/abi.NoEscape", "internal/bytealg.MakeNoZero"], unfollowed := true, recurses := true, apart := false }
def ShowOnesSaid : Prop := showOnesRow.holds Tryz.pinned (OpenSpec.ofChange showOnesSpec)

/-- ITS FALSE NEIGHBOUR: 'it returns false'. Refute it at one input. -/
def showOnesWrong : ChangeSpec := { name := "showOnes", fn := fun _ => fun
  | [d] => { results := [.lit (.bool false)], args := [d] }
  | _ => none }
def ShowOnesWrongFalsely : Prop := showOnesRow.holds Tryz.pinned (OpenSpec.ofChange showOnesWrong)

/-- 'whirligiglaw13.ShowDiffers': WHATEVER THE INPUT: true; the input reads as it did. -/
def showDiffersSpec : ChangeSpec := { name := "showDiffers", fn := fun _ => fun
  | [d1, d2] => { results := [.lit (.bool true)], args := [d1, d2] }
  | _ => none }
def showDiffersRow : OpenClaim := { program := "ytaealcimocpnnaagreat", sum := "aa7705389c1358626b18a9427aad42c4874ec454229b5c90da67444a995f047a", func := "whirligig/whirligiglaw13.ShowDiffers", spec := "showDiffers", inPlace := ["internal/abi.NoEscape", "internal/bytealg.MakeNoZero"], unfollowed := true, recurses := true, apart := false }
def ShowDiffersSaid : Prop := showDiffersRow.holds Tryz.pinned (OpenSpec.ofChange showDiffersSpec)

/-- ITS FALSE NEIGHBOUR: 'it returns false'. Refute it at one input. -/
def showDiffersWrong : ChangeSpec := { name := "showDiffers", fn := fun _ => fun
  | [d1, d2] => { results := [.lit (.bool false)], args := [d1, d2] }
  | _ => none }
def ShowDiffersWrongFalsely : Prop := showDiffersRow.holds Tryz.pinned (OpenSpec.ofChange showDiffersWrong)

/- THE SECOND FORM. 'bulk': how many values and letters a reading holds, each counted each time it is reached (what is shared counts as often as it is met; a slice's spare places count too). A statement '..UptoSaid' is the law's where the arguments, and the package variables that the reading takes, are together of bulk at most 1048576: NARROWER than '..Said'. Prove '..Said' where nothing that the law and all that it calls make is longer than what came in: it says more and counts as full. Else prove '..UptoSaid'. A law counts once. -/
mutual
def uptoBulk {H : Type} : DataW H → Nat
  | .lit (.string bytes) => bytes.length + 1
  | .lit _ => 1
  | .nil => 1
  | .ptr d => uptoBulk d + 1
  | .slice elems spare => uptoBulkAll elems + uptoBulkAll spare + 1
  | .agg parts => uptoBulkAll parts + 1
  | .iface _ d => uptoBulk d + 1
  | .map entries => uptoBulkEntries entries + 1
  | .held _ => 1
def uptoBulkAll {H : Type} : List (DataW H) → Nat
  | [] => 0
  | d :: r => uptoBulk d + uptoBulkAll r
def uptoBulkEntries {H : Type} : List (Lit × DataW H) → Nat
  | [] => 0
  | x :: r => uptoBulkEntry x + uptoBulkEntries r
def uptoBulkEntry {H : Type} : Lit × DataW H → Nat
  | (.string bytes, d) => bytes.length + uptoBulk d + 1
  | (_, d) => uptoBulk d + 1
 end
def uptoSmall : (H : Type) → List (DataW H) → Bool := fun _ ds => decide (uptoBulkAll ds ≤ 1048576)
def OpenSpec.upto (s : _root_.Go.ChangeSpec) : _root_.Go.OpenSpec := { _root_.Go.OpenSpec.ofChange s with cond := some uptoSmall }

/-- 'whirligiglaw13.ShowPrints', WHERE WHAT IT READS IS OF BULK AT MOST 1048576: true; the input reads as it did. -/
def showPrintsUptoRow : OpenClaim := { program := "ytaealcimocpnnaagreat", sum := "aa7705389c1358626b18a9427aad42c4874ec454229b5c90da67444a995f047a", func := "whirligig/whirligiglaw13.ShowPrints", spec := "showPrints", inPlace := ["internal/abi.NoEscape", "internal/bytealg.MakeNoZero"], unfollowed := true, recurses := true, apart := false, narrowed := true }
def ShowPrintsUptoSaid : Prop := showPrintsUptoRow.holds Tryz.pinned (OpenSpec.upto showPrintsSpec)

/-- 'whirligiglaw13.ShowOnes', WHERE WHAT IT READS IS OF BULK AT MOST 1048576: true; the input reads as it did. -/
def showOnesUptoRow : OpenClaim := { program := "ytaealcimocpnnaagreat", sum := "aa7705389c1358626b18a9427aad42c4874ec454229b5c90da67444a995f047a", func := "whirligig/whirligiglaw13.ShowOnes", spec := "showOnes", inPlace := ["internal/abi.NoEscape", "internal/bytealg.MakeNoZero"], unfollowed := true, recurses := true, apart := false, narrowed := true }
def ShowOnesUptoSaid : Prop := showOnesUptoRow.holds Tryz.pinned (OpenSpec.upto showOnesSpec)

/-- 'whirligiglaw13.ShowDiffers', WHERE WHAT IT READS IS OF BULK AT MOST 1048576: true; the input reads as it did. -/
def showDiffersUptoRow : OpenClaim := { program := "ytaealcimocpnnaagreat", sum := "aa7705389c1358626b18a9427aad42c4874ec454229b5c90da67444a995f047a", func := "whirligig/whirligiglaw13.ShowDiffers", spec := "showDiffers", inPlace := ["internal/abi.NoEscape", "internal/bytealg.MakeNoZero"], unfollowed := true, recurses := true, apart := false, narrowed := true }
def ShowDiffersUptoSaid : Prop := showDiffersUptoRow.holds Tryz.pinned (OpenSpec.upto showDiffersSpec)

end Rows
end Go.Proofs.YtaealcimocpnnaaGreat
