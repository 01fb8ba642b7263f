/-
  No cell of these rows narrows 'for every input' (looked for: loops, veiled, ifaces, maps, wideKeys, modest, calm, conditions, laid).
  DERIVED. THE GIVEN ROWS OF THIS SEAT. 9 by the template 'for every input the law returns true; each argument reads behind the call as it read before'; 0 by the template 'total and deterministic' (their statements: YtgfjihpbphplhaaGreatTotals.lean).
  GIVEN WITH THE SEED: the statements are not yours to turn. If you find one false, say at which input.
  Laid BY PROGRAM, IN A SANDBOX (cutbox-rows.mjs): the forced cells as the released guide's own fill.sh prints them over the translation 8a0a441e1039434c… (all of the seat's roots in one cut). By AI agents, Wed Nov 11 2026. No macro, syntax, notation, axiom, sorry.
-/
import Derived.Test.YtgfjihpbphplhaaGreatChecked
import GoSem.Claim
import GoSem.ClaimJoined
import GoSem.ClaimMapViews
import Derived.JoinedTies
import Derived.KernelRfl
namespace Go.Proofs.YtgfjihpbphplhaaGreat
/- THE CELL 'sum', in the pinned program and in every row, IS THE sha256 OF THE DUMP (.gsa) THAT YtgfjihpbphplhaaGreatProg.lean LOADS. Nothing in Lean hashes anything: it is a label: what it is worth is what the hold of that sum in a sandbox is worth. -/
noncomputable def Tryz.pinned : Pinned := { name := "ytgfjihpbphplhaagreat", sum := "8a0a441e1039434cf419778911a80dcf03451a24109cd73a81fda4909cac37cc", checked := Tryz.checked }
namespace Rows
def none {H : Type} : Left H := { results := [], args := [] }

/-- 'whirligiglaw15.IgpCosts': WHATEVER THE INPUT: true; the input reads as it did. -/
def igpCostsSpec : ChangeSpec := { name := "igpCosts", fn := fun _ => fun
  | [d1, d2, d3] => { results := [.lit (.bool true)], args := [d1, d2, d3] }
  | _ => none }
def igpCostsRow : OpenClaim := { program := "ytgfjihpbphplhaagreat", sum := "8a0a441e1039434cf419778911a80dcf03451a24109cd73a81fda4909cac37cc", func := "whirligig/whirligiglaw15.IgpCosts", spec := "igpCosts", unfollowed := true, recurses := true, apart := false }
def IgpCostsSaid : Prop := igpCostsRow.holds Tryz.pinned (OpenSpec.ofChange igpCostsSpec)

/-- ITS FALSE NEIGHBOUR: 'it returns false'. Refute it at one input. -/
def igpCostsWrong : ChangeSpec := { name := "igpCosts", fn := fun _ => fun
  | [d1, d2, d3] => { results := [.lit (.bool false)], args := [d1, d2, d3] }
  | _ => none }
def IgpCostsWrongFalsely : Prop := igpCostsRow.holds Tryz.pinned (OpenSpec.ofChange igpCostsWrong)

/-- 'whirligiglaw15.IgpGoes': WHATEVER THE INPUT: true; the input reads as it did. -/
def igpGoesSpec : ChangeSpec := { name := "igpGoes", fn := fun _ => fun
  | [d] => { results := [.lit (.bool true)], args := [d] }
  | _ => none }
def igpGoesRow : OpenClaim := { program := "ytgfjihpbphplhaagreat", sum := "8a0a441e1039434cf419778911a80dcf03451a24109cd73a81fda4909cac37cc", func := "whirligig/whirligiglaw15.IgpGoes", spec := "igpGoes", unfollowed := true, recurses := true, apart := false }
def IgpGoesSaid : Prop := igpGoesRow.holds Tryz.pinned (OpenSpec.ofChange igpGoesSpec)

/-- ITS FALSE NEIGHBOUR: 'it returns false'. Refute it at one input. -/
def igpGoesWrong : ChangeSpec := { name := "igpGoes", fn := fun _ => fun
  | [d] => { results := [.lit (.bool false)], args := [d] }
  | _ => none }
def IgpGoesWrongFalsely : Prop := igpGoesRow.holds Tryz.pinned (OpenSpec.ofChange igpGoesWrong)

/-- 'whirligiglaw15.IgpGroups': WHATEVER THE INPUT: true; the input reads as it did. -/
def igpGroupsSpec : ChangeSpec := { name := "igpGroups", fn := fun _ => fun
  | [d1, d2] => { results := [.lit (.bool true)], args := [d1, d2] }
  | _ => none }
def igpGroupsRow : OpenClaim := { program := "ytgfjihpbphplhaagreat", sum := "8a0a441e1039434cf419778911a80dcf03451a24109cd73a81fda4909cac37cc", func := "whirligig/whirligiglaw15.IgpGroups", spec := "igpGroups", unfollowed := true, recurses := true, apart := false }
def IgpGroupsSaid : Prop := igpGroupsRow.holds Tryz.pinned (OpenSpec.ofChange igpGroupsSpec)

/-- ITS FALSE NEIGHBOUR: 'it returns false'. Refute it at one input. -/
def igpGroupsWrong : ChangeSpec := { name := "igpGroups", fn := fun _ => fun
  | [d1, d2] => { results := [.lit (.bool false)], args := [d1, d2] }
  | _ => none }
def IgpGroupsWrongFalsely : Prop := igpGroupsRow.holds Tryz.pinned (OpenSpec.ofChange igpGroupsWrong)

/-- 'whirligiglaw15.IgpWithout': WHATEVER THE INPUT: true; the input reads as it did. -/
def igpWithoutSpec : ChangeSpec := { name := "igpWithout", fn := fun _ => fun
  | [d1, d2, d3] => { results := [.lit (.bool true)], args := [d1, d2, d3] }
  | _ => none }
def igpWithoutRow : OpenClaim := { program := "ytgfjihpbphplhaagreat", sum := "8a0a441e1039434cf419778911a80dcf03451a24109cd73a81fda4909cac37cc", func := "whirligig/whirligiglaw15.IgpWithout", spec := "igpWithout", unfollowed := true, recurses := true, apart := false }
def IgpWithoutSaid : Prop := igpWithoutRow.holds Tryz.pinned (OpenSpec.ofChange igpWithoutSpec)

/-- ITS FALSE NEIGHBOUR: 'it returns false'. Refute it at one input. -/
def igpWithoutWrong : ChangeSpec := { name := "igpWithout", fn := fun _ => fun
  | [d1, d2, d3] => { results := [.lit (.bool false)], args := [d1, d2, d3] }
  | _ => none }
def IgpWithoutWrongFalsely : Prop := igpWithoutRow.holds Tryz.pinned (OpenSpec.ofChange igpWithoutWrong)

/-- 'whirligiglaw18.DecideOf': WHATEVER THE INPUT: true; the input reads as it did. -/
def decideOfSpec : ChangeSpec := { name := "decideOf", fn := fun _ => fun
  | [d1, d2, d3] => { results := [.lit (.bool true)], args := [d1, d2, d3] }
  | _ => none }
def decideOfRow : OpenClaim := { program := "ytgfjihpbphplhaagreat", sum := "8a0a441e1039434cf419778911a80dcf03451a24109cd73a81fda4909cac37cc", func := "whirligig/whirligiglaw18.DecideOf", spec := "decideOf", unfollowed := true, recurses := true, apart := false }
def DecideOfSaid : Prop := decideOfRow.holds Tryz.pinned (OpenSpec.ofChange decideOfSpec)

/-- ITS FALSE NEIGHBOUR: 'it returns false'. Refute it at one input. -/
def decideOfWrong : ChangeSpec := { name := "decideOf", fn := fun _ => fun
  | [d1, d2, d3] => { results := [.lit (.bool false)], args := [d1, d2, d3] }
  | _ => none }
def DecideOfWrongFalsely : Prop := decideOfRow.holds Tryz.pinned (OpenSpec.ofChange decideOfWrong)

/-- 'whirligiglaw30.FwdWalks': WHATEVER THE INPUT: true; the input reads as it did. -/
def fwdWalksSpec : ChangeSpec := { name := "fwdWalks", fn := fun _ => fun
  | [d1, d2] => { results := [.lit (.bool true)], args := [d1, d2] }
  | _ => none }
def fwdWalksRow : OpenClaim := { program := "ytgfjihpbphplhaagreat", sum := "8a0a441e1039434cf419778911a80dcf03451a24109cd73a81fda4909cac37cc", func := "whirligig/whirligiglaw30.FwdWalks", spec := "fwdWalks", unfollowed := true, recurses := true, apart := false }
def FwdWalksSaid : Prop := fwdWalksRow.holds Tryz.pinned (OpenSpec.ofChange fwdWalksSpec)

/-- ITS FALSE NEIGHBOUR: 'it returns false'. Refute it at one input. -/
def fwdWalksWrong : ChangeSpec := { name := "fwdWalks", fn := fun _ => fun
  | [d1, d2] => { results := [.lit (.bool false)], args := [d1, d2] }
  | _ => none }
def FwdWalksWrongFalsely : Prop := fwdWalksRow.holds Tryz.pinned (OpenSpec.ofChange fwdWalksWrong)

/-- 'whirligiglaw30.FwdLists': WHATEVER THE INPUT: true; the input reads as it did. -/
def fwdListsSpec : ChangeSpec := { name := "fwdLists", fn := fun _ => fun
  | [d1, d2, d3] => { results := [.lit (.bool true)], args := [d1, d2, d3] }
  | _ => none }
def fwdListsRow : OpenClaim := { program := "ytgfjihpbphplhaagreat", sum := "8a0a441e1039434cf419778911a80dcf03451a24109cd73a81fda4909cac37cc", func := "whirligig/whirligiglaw30.FwdLists", spec := "fwdLists", unfollowed := true, recurses := true, apart := false }
def FwdListsSaid : Prop := fwdListsRow.holds Tryz.pinned (OpenSpec.ofChange fwdListsSpec)

/-- ITS FALSE NEIGHBOUR: 'it returns false'. Refute it at one input. -/
def fwdListsWrong : ChangeSpec := { name := "fwdLists", fn := fun _ => fun
  | [d1, d2, d3] => { results := [.lit (.bool false)], args := [d1, d2, d3] }
  | _ => none }
def FwdListsWrongFalsely : Prop := fwdListsRow.holds Tryz.pinned (OpenSpec.ofChange fwdListsWrong)

/-- 'whirligiglaw30.FwdEnds': WHATEVER THE INPUT: true; the input reads as it did. -/
def fwdEndsSpec : ChangeSpec := { name := "fwdEnds", fn := fun _ => fun
  | [d1, d2] => { results := [.lit (.bool true)], args := [d1, d2] }
  | _ => none }
def fwdEndsRow : OpenClaim := { program := "ytgfjihpbphplhaagreat", sum := "8a0a441e1039434cf419778911a80dcf03451a24109cd73a81fda4909cac37cc", func := "whirligig/whirligiglaw30.FwdEnds", spec := "fwdEnds", unfollowed := true, recurses := true, apart := false }
def FwdEndsSaid : Prop := fwdEndsRow.holds Tryz.pinned (OpenSpec.ofChange fwdEndsSpec)

/-- ITS FALSE NEIGHBOUR: 'it returns false'. Refute it at one input. -/
def fwdEndsWrong : ChangeSpec := { name := "fwdEnds", fn := fun _ => fun
  | [d1, d2] => { results := [.lit (.bool false)], args := [d1, d2] }
  | _ => none }
def FwdEndsWrongFalsely : Prop := fwdEndsRow.holds Tryz.pinned (OpenSpec.ofChange fwdEndsWrong)

/-- 'whirligiglaw30.FwdNils': WHATEVER THE INPUT: true; the input reads as it did. -/
def fwdNilsSpec : ChangeSpec := { name := "fwdNils", fn := fun _ => fun
  | [d1, d2, d3] => { results := [.lit (.bool true)], args := [d1, d2, d3] }
  | _ => none }
def fwdNilsRow : OpenClaim := { program := "ytgfjihpbphplhaagreat", sum := "8a0a441e1039434cf419778911a80dcf03451a24109cd73a81fda4909cac37cc", func := "whirligig/whirligiglaw30.FwdNils", spec := "fwdNils", unfollowed := true, recurses := true, apart := false }
def FwdNilsSaid : Prop := fwdNilsRow.holds Tryz.pinned (OpenSpec.ofChange fwdNilsSpec)

/-- ITS FALSE NEIGHBOUR: 'it returns false'. Refute it at one input. -/
def fwdNilsWrong : ChangeSpec := { name := "fwdNils", fn := fun _ => fun
  | [d1, d2, d3] => { results := [.lit (.bool false)], args := [d1, d2, d3] }
  | _ => none }
def FwdNilsWrongFalsely : Prop := fwdNilsRow.holds Tryz.pinned (OpenSpec.ofChange fwdNilsWrong)

/- THE SECOND FORM. 'bulk': how many values and letters a reading holds, each counted each time it is reached (what is shared counts as often as it is met; a slice's spare places count too). A statement '..UptoSaid' is the law's where the arguments, and the package variables that the reading takes, are together of bulk at most 1048576: NARROWER than '..Said'. Prove '..Said' where nothing that the law and all that it calls make is longer than what came in: it says more and counts as full. Else prove '..UptoSaid'. A law counts once. -/
mutual
def uptoBulk {H : Type} : DataW H → Nat
  | .lit (.string bytes) => bytes.length + 1
  | .lit _ => 1
  | .nil => 1
  | .ptr d => uptoBulk d + 1
  | .slice elems spare => uptoBulkAll elems + uptoBulkAll spare + 1
  | .agg parts => uptoBulkAll parts + 1
  | .iface _ d => uptoBulk d + 1
  | .map entries => uptoBulkEntries entries + 1
  | .held _ => 1
def uptoBulkAll {H : Type} : List (DataW H) → Nat
  | [] => 0
  | d :: r => uptoBulk d + uptoBulkAll r
def uptoBulkEntries {H : Type} : List (Lit × DataW H) → Nat
  | [] => 0
  | x :: r => uptoBulkEntry x + uptoBulkEntries r
def uptoBulkEntry {H : Type} : Lit × DataW H → Nat
  | (.string bytes, d) => bytes.length + uptoBulk d + 1
  | (_, d) => uptoBulk d + 1
 end
def uptoSmall : (H : Type) → List (DataW H) → Bool := fun _ ds => decide (uptoBulkAll ds ≤ 1048576)
def OpenSpec.upto (s : _root_.Go.ChangeSpec) : _root_.Go.OpenSpec := { _root_.Go.OpenSpec.ofChange s with cond := some uptoSmall }

/-- 'whirligiglaw15.IgpCosts', WHERE WHAT IT READS IS OF BULK AT MOST 1048576: true; the input reads as it did. -/
def igpCostsUptoRow : OpenClaim := { program := "ytgfjihpbphplhaagreat", sum := "8a0a441e1039434cf419778911a80dcf03451a24109cd73a81fda4909cac37cc", func := "whirligig/whirligiglaw15.IgpCosts", spec := "igpCosts", unfollowed := true, recurses := true, apart := false, narrowed := true }
def IgpCostsUptoSaid : Prop := igpCostsUptoRow.holds Tryz.pinned (OpenSpec.upto igpCostsSpec)

/-- 'whirligiglaw15.IgpGoes', WHERE WHAT IT READS IS OF BULK AT MOST 1048576: true; the input reads as it did. -/
def igpGoesUptoRow : OpenClaim := { program := "ytgfjihpbphplhaagreat", sum := "8a0a441e1039434cf419778911a80dcf03451a24109cd73a81fda4909cac37cc", func := "whirligig/whirligiglaw15.IgpGoes", spec := "igpGoes", unfollowed := true, recurses := true, apart := false, narrowed := true }
def IgpGoesUptoSaid : Prop := igpGoesUptoRow.holds Tryz.pinned (OpenSpec.upto igpGoesSpec)

/-- 'whirligiglaw15.IgpGroups', WHERE WHAT IT READS IS OF BULK AT MOST 1048576: true; the input reads as it did. -/
def igpGroupsUptoRow : OpenClaim := { program := "ytgfjihpbphplhaagreat", sum := "8a0a441e1039434cf419778911a80dcf03451a24109cd73a81fda4909cac37cc", func := "whirligig/whirligiglaw15.IgpGroups", spec := "igpGroups", unfollowed := true, recurses := true, apart := false, narrowed := true }
def IgpGroupsUptoSaid : Prop := igpGroupsUptoRow.holds Tryz.pinned (OpenSpec.upto igpGroupsSpec)

/-- 'whirligiglaw15.IgpWithout', WHERE WHAT IT READS IS OF BULK AT MOST 1048576: true; the input reads as it did. -/
def igpWithoutUptoRow : OpenClaim := { program := "ytgfjihpbphplhaagreat", sum := "8a0a441e1039434cf419778911a80dcf03451a24109cd73a81fda4909cac37cc", func := "whirligig/whirligiglaw15.IgpWithout", spec := "igpWithout", unfollowed := true, recurses := true, apart := false, narrowed := true }
def IgpWithoutUptoSaid : Prop := igpWithoutUptoRow.holds Tryz.pinned (OpenSpec.upto igpWithoutSpec)

/-- 'whirligiglaw18.DecideOf', WHERE WHAT IT READS IS OF BULK AT MOST 1048576: true; the input reads as it did. -/
def decideOfUptoRow : OpenClaim := { program := "ytgfjihpbphplhaagreat", sum := "8a0a441e1039434cf419778911a80dcf03451a24109cd73a81fda4909cac37cc", func := "whirligig/whirligiglaw18.DecideOf", spec := "decideOf", unfollowed := true, recurses := true, apart := false, narrowed := true }
def DecideOfUptoSaid : Prop := decideOfUptoRow.holds Tryz.pinned (OpenSpec.upto decideOfSpec)

/-- 'whirligiglaw30.FwdWalks', WHERE WHAT IT READS IS OF BULK AT MOST 1048576: true; the input reads as it did. -/
def fwdWalksUptoRow : OpenClaim := { program := "ytgfjihpbphplhaagreat", sum := "8a0a441e1039434cf419778911a80dcf03451a24109cd73a81fda4909cac37cc", func := "whirligig/whirligiglaw30.FwdWalks", spec := "fwdWalks", unfollowed := true, recurses := true, apart := false, narrowed := true }
def FwdWalksUptoSaid : Prop := fwdWalksUptoRow.holds Tryz.pinned (OpenSpec.upto fwdWalksSpec)

/-- 'whirligiglaw30.FwdLists', WHERE WHAT IT READS IS OF BULK AT MOST 1048576: true; the input reads as it did. -/
def fwdListsUptoRow : OpenClaim := { program := "ytgfjihpbphplhaagreat", sum := "8a0a441e1039434cf419778911a80dcf03451a24109cd73a81fda4909cac37cc", func := "whirligig/whirligiglaw30.FwdLists", spec := "fwdLists", unfollowed := true, recurses := true, apart := false, narrowed := true }
def FwdListsUptoSaid : Prop := fwdListsUptoRow.holds Tryz.pinned (OpenSpec.upto fwdListsSpec)

/-- 'whirligiglaw30.FwdEnds', WHERE WHAT IT READS IS OF BULK AT MOST 1048576: true; the input reads as it did. -/
def fwdEndsUptoRow : OpenClaim := { program := "ytgfjihpbphplhaagreat", sum := "8a0a441e1039434cf419778911a80dcf03451a24109cd73a81fda4909cac37cc", func := "whirligig/whirligiglaw30.FwdEnds", spec := "fwdEnds", unfollowed := true, recurses := true, apart := false, narrowed := true }
def FwdEndsUptoSaid : Prop := fwdEndsUptoRow.holds Tryz.pinned (OpenSpec.upto fwdEndsSpec)

/-- 'whirligiglaw30.FwdNils', WHERE WHAT IT READS IS OF BULK AT MOST 1048576: true; the input reads as it did. -/
def fwdNilsUptoRow : OpenClaim := { program := "ytgfjihpbphplhaagreat", sum := "8a0a441e1039434cf419778911a80dcf03451a24109cd73a81fda4909cac37cc", func := "whirligig/whirligiglaw30.FwdNils", spec := "fwdNils", unfollowed := true, recurses := true, apart := false, narrowed := true }
def FwdNilsUptoSaid : Prop := fwdNilsUptoRow.holds Tryz.pinned (OpenSpec.upto fwdNilsSpec)

end Rows
end Go.Proofs.YtgfjihpbphplhaaGreat
