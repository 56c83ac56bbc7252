/-
  No cell of these rows narrows 'for every input' (looked for: loops, veiled, ifaces, maps, wideKeys, modest, calm, conditions, laid).
  DERIVED. THE GIVEN ROWS OF THIS SEAT. 7 by the template 'for every input the law returns true; each argument reads behind the call as it read before'; 0 by the template 'total and deterministic' (their statements: YtfcedalbamafiaaTotals.lean).
  GIVEN WITH THE SEED: the statements are not yours to turn. If you find one false, say at which input.
  Laid BY PROGRAM, IN A SANDBOX (cutbox-rows.mjs): the forced cells as the released guide's own fill.sh prints them over the translation 590d31202f6ed1d0… (all of the seat's roots in one cut). By AI agents, Wed Nov 11 2026. No macro, syntax, notation, axiom, sorry.
-/
import Derived.Test.YtfcedalbamafiaaChecked
import GoSem.Claim
import GoSem.ClaimJoined
import GoSem.ClaimMapViews
import Derived.JoinedTies
import Derived.KernelRfl
namespace Go.Proofs.Ytfcedalbamafiaa
/- THE CELL 'sum', in the pinned program and in every row, IS THE sha256 OF THE DUMP (.gsa) THAT YtfcedalbamafiaaProg.lean LOADS. Nothing in Lean hashes anything: it is a label: what it is worth is what the hold of that sum in a sandbox is worth. -/
noncomputable def Try.pinned : Pinned := { name := "ytfcedalbamafiaa", sum := "590d31202f6ed1d051574644607e264a14587fb26c0cd5d61ccf119a7b2d6e19", checked := Try.checked }
namespace Rows
def none {H : Type} : Left H := { results := [], args := [] }

/-- 'clepsydralaw15.ChooseMajority': WHATEVER THE INPUT: true; the input reads as it did. -/
def chooseMajoritySpec : ChangeSpec := { name := "chooseMajority", fn := fun _ => fun
  | [d1, d2] => { results := [.lit (.bool true)], args := [d1, d2] }
  | _ => none }
def chooseMajorityRow : OpenClaim := { program := "ytfcedalbamafiaa", sum := "590d31202f6ed1d051574644607e264a14587fb26c0cd5d61ccf119a7b2d6e19", func := "clepsydra/clepsydralaw15.ChooseMajority", spec := "chooseMajority", unfollowed := true, recurses := true, apart := false }
def ChooseMajoritySaid : Prop := chooseMajorityRow.holds Try.pinned (OpenSpec.ofChange chooseMajoritySpec)

/-- ITS FALSE NEIGHBOUR: 'it returns false'. Refute it at one input. -/
def chooseMajorityWrong : ChangeSpec := { name := "chooseMajority", fn := fun _ => fun
  | [d1, d2] => { results := [.lit (.bool false)], args := [d1, d2] }
  | _ => none }
def ChooseMajorityWrongFalsely : Prop := chooseMajorityRow.holds Try.pinned (OpenSpec.ofChange chooseMajorityWrong)

/-- 'clepsydralaw15.ChooseEnds': WHATEVER THE INPUT: true; the input reads as it did. -/
def chooseEndsSpec : ChangeSpec := { name := "chooseEnds", fn := fun _ => fun
  | [d] => { results := [.lit (.bool true)], args := [d] }
  | _ => none }
def chooseEndsRow : OpenClaim := { program := "ytfcedalbamafiaa", sum := "590d31202f6ed1d051574644607e264a14587fb26c0cd5d61ccf119a7b2d6e19", func := "clepsydra/clepsydralaw15.ChooseEnds", spec := "chooseEnds", unfollowed := true, recurses := true, apart := false }
def ChooseEndsSaid : Prop := chooseEndsRow.holds Try.pinned (OpenSpec.ofChange chooseEndsSpec)

/-- ITS FALSE NEIGHBOUR: 'it returns false'. Refute it at one input. -/
def chooseEndsWrong : ChangeSpec := { name := "chooseEnds", fn := fun _ => fun
  | [d] => { results := [.lit (.bool false)], args := [d] }
  | _ => none }
def ChooseEndsWrongFalsely : Prop := chooseEndsRow.holds Try.pinned (OpenSpec.ofChange chooseEndsWrong)

/-- 'clepsydralaw15.ChooseMiddle': WHATEVER THE INPUT: true; the input reads as it did. -/
def chooseMiddleSpec : ChangeSpec := { name := "chooseMiddle", fn := fun _ => fun
  | [d1, d2, d3] => { results := [.lit (.bool true)], args := [d1, d2, d3] }
  | _ => none }
def chooseMiddleRow : OpenClaim := { program := "ytfcedalbamafiaa", sum := "590d31202f6ed1d051574644607e264a14587fb26c0cd5d61ccf119a7b2d6e19", func := "clepsydra/clepsydralaw15.ChooseMiddle", spec := "chooseMiddle", unfollowed := true, recurses := true, apart := false }
def ChooseMiddleSaid : Prop := chooseMiddleRow.holds Try.pinned (OpenSpec.ofChange chooseMiddleSpec)

/-- ITS FALSE NEIGHBOUR: 'it returns false'. Refute it at one input. -/
def chooseMiddleWrong : ChangeSpec := { name := "chooseMiddle", fn := fun _ => fun
  | [d1, d2, d3] => { results := [.lit (.bool false)], args := [d1, d2, d3] }
  | _ => none }
def ChooseMiddleWrongFalsely : Prop := chooseMiddleRow.holds Try.pinned (OpenSpec.ofChange chooseMiddleWrong)

/-- 'clepsydralaw15.ChooseRegions': WHATEVER THE INPUT: true; the input reads as it did. -/
def chooseRegionsSpec : ChangeSpec := { name := "chooseRegions", fn := fun _ => fun
  | [d1, d2] => { results := [.lit (.bool true)], args := [d1, d2] }
  | _ => none }
def chooseRegionsRow : OpenClaim := { program := "ytfcedalbamafiaa", sum := "590d31202f6ed1d051574644607e264a14587fb26c0cd5d61ccf119a7b2d6e19", func := "clepsydra/clepsydralaw15.ChooseRegions", spec := "chooseRegions", unfollowed := true, recurses := true, apart := false }
def ChooseRegionsSaid : Prop := chooseRegionsRow.holds Try.pinned (OpenSpec.ofChange chooseRegionsSpec)

/-- ITS FALSE NEIGHBOUR: 'it returns false'. Refute it at one input. -/
def chooseRegionsWrong : ChangeSpec := { name := "chooseRegions", fn := fun _ => fun
  | [d1, d2] => { results := [.lit (.bool false)], args := [d1, d2] }
  | _ => none }
def ChooseRegionsWrongFalsely : Prop := chooseRegionsRow.holds Try.pinned (OpenSpec.ofChange chooseRegionsWrong)

/-- 'clepsydralaw15.ChooseOne': WHATEVER THE INPUT: true; the input reads as it did. -/
def chooseOneSpec : ChangeSpec := { name := "chooseOne", fn := fun _ => fun
  | [d1, d2] => { results := [.lit (.bool true)], args := [d1, d2] }
  | _ => none }
def chooseOneRow : OpenClaim := { program := "ytfcedalbamafiaa", sum := "590d31202f6ed1d051574644607e264a14587fb26c0cd5d61ccf119a7b2d6e19", func := "clepsydra/clepsydralaw15.ChooseOne", spec := "chooseOne", unfollowed := true, recurses := true, apart := false }
def ChooseOneSaid : Prop := chooseOneRow.holds Try.pinned (OpenSpec.ofChange chooseOneSpec)

/-- ITS FALSE NEIGHBOUR: 'it returns false'. Refute it at one input. -/
def chooseOneWrong : ChangeSpec := { name := "chooseOne", fn := fun _ => fun
  | [d1, d2] => { results := [.lit (.bool false)], args := [d1, d2] }
  | _ => none }
def ChooseOneWrongFalsely : Prop := chooseOneRow.holds Try.pinned (OpenSpec.ofChange chooseOneWrong)

/-- 'clepsydralaw15.ChooseClusters': WHATEVER THE INPUT: true; the input reads as it did. -/
def chooseClustersSpec : ChangeSpec := { name := "chooseClusters", fn := fun _ => fun
  | [d1, d2, d3] => { results := [.lit (.bool true)], args := [d1, d2, d3] }
  | _ => none }
def chooseClustersRow : OpenClaim := { program := "ytfcedalbamafiaa", sum := "590d31202f6ed1d051574644607e264a14587fb26c0cd5d61ccf119a7b2d6e19", func := "clepsydra/clepsydralaw15.ChooseClusters", spec := "chooseClusters", unfollowed := true, recurses := true, apart := false }
def ChooseClustersSaid : Prop := chooseClustersRow.holds Try.pinned (OpenSpec.ofChange chooseClustersSpec)

/-- ITS FALSE NEIGHBOUR: 'it returns false'. Refute it at one input. -/
def chooseClustersWrong : ChangeSpec := { name := "chooseClusters", fn := fun _ => fun
  | [d1, d2, d3] => { results := [.lit (.bool false)], args := [d1, d2, d3] }
  | _ => none }
def ChooseClustersWrongFalsely : Prop := chooseClustersRow.holds Try.pinned (OpenSpec.ofChange chooseClustersWrong)

/-- 'clepsydralaw15.ChooseLeft': WHATEVER THE INPUT: true; the input reads as it did. -/
def chooseLeftSpec : ChangeSpec := { name := "chooseLeft", fn := fun _ => fun
  | [d1, d2, d3] => { results := [.lit (.bool true)], args := [d1, d2, d3] }
  | _ => none }
def chooseLeftRow : OpenClaim := { program := "ytfcedalbamafiaa", sum := "590d31202f6ed1d051574644607e264a14587fb26c0cd5d61ccf119a7b2d6e19", func := "clepsydra/clepsydralaw15.ChooseLeft", spec := "chooseLeft", unfollowed := true, recurses := true, apart := false }
def ChooseLeftSaid : Prop := chooseLeftRow.holds Try.pinned (OpenSpec.ofChange chooseLeftSpec)

/-- ITS FALSE NEIGHBOUR: 'it returns false'. Refute it at one input. -/
def chooseLeftWrong : ChangeSpec := { name := "chooseLeft", fn := fun _ => fun
  | [d1, d2, d3] => { results := [.lit (.bool false)], args := [d1, d2, d3] }
  | _ => none }
def ChooseLeftWrongFalsely : Prop := chooseLeftRow.holds Try.pinned (OpenSpec.ofChange chooseLeftWrong)

/- THE SECOND FORM. 'bulk': how many values and letters a reading holds, each counted each time it is reached (what is shared counts as often as it is met; a slice's spare places count too). A statement '..UptoSaid' is the law's where the arguments, and the package variables that the reading takes, are together of bulk at most 1048576: NARROWER than '..Said'. Prove '..Said' where nothing that the law and all that it calls make is longer than what came in: it says more and counts as full. Else prove '..UptoSaid'. A law counts once. -/
mutual
def uptoBulk {H : Type} : DataW H → Nat
  | .lit (.string bytes) => bytes.length + 1
  | .lit _ => 1
  | .nil => 1
  | .ptr d => uptoBulk d + 1
  | .slice elems spare => uptoBulkAll elems + uptoBulkAll spare + 1
  | .agg parts => uptoBulkAll parts + 1
  | .iface _ d => uptoBulk d + 1
  | .map entries => uptoBulkEntries entries + 1
  | .held _ => 1
def uptoBulkAll {H : Type} : List (DataW H) → Nat
  | [] => 0
  | d :: r => uptoBulk d + uptoBulkAll r
def uptoBulkEntries {H : Type} : List (Lit × DataW H) → Nat
  | [] => 0
  | x :: r => uptoBulkEntry x + uptoBulkEntries r
def uptoBulkEntry {H : Type} : Lit × DataW H → Nat
  | (.string bytes, d) => bytes.length + uptoBulk d + 1
  | (_, d) => uptoBulk d + 1
 end
def uptoSmall : (H : Type) → List (DataW H) → Bool := fun _ ds => decide (uptoBulkAll ds ≤ 1048576)
def OpenSpec.upto (s : _root_.Go.ChangeSpec) : _root_.Go.OpenSpec := { _root_.Go.OpenSpec.ofChange s with cond := some uptoSmall }

/-- 'clepsydralaw15.ChooseMajority', WHERE WHAT IT READS IS OF BULK AT MOST 1048576: true; the input reads as it did. -/
def chooseMajorityUptoRow : OpenClaim := { program := "ytfcedalbamafiaa", sum := "590d31202f6ed1d051574644607e264a14587fb26c0cd5d61ccf119a7b2d6e19", func := "clepsydra/clepsydralaw15.ChooseMajority", spec := "chooseMajority", unfollowed := true, recurses := true, apart := false, narrowed := true }
def ChooseMajorityUptoSaid : Prop := chooseMajorityUptoRow.holds Try.pinned (OpenSpec.upto chooseMajoritySpec)

/-- 'clepsydralaw15.ChooseEnds', WHERE WHAT IT READS IS OF BULK AT MOST 1048576: true; the input reads as it did. -/
def chooseEndsUptoRow : OpenClaim := { program := "ytfcedalbamafiaa", sum := "590d31202f6ed1d051574644607e264a14587fb26c0cd5d61ccf119a7b2d6e19", func := "clepsydra/clepsydralaw15.ChooseEnds", spec := "chooseEnds", unfollowed := true, recurses := true, apart := false, narrowed := true }
def ChooseEndsUptoSaid : Prop := chooseEndsUptoRow.holds Try.pinned (OpenSpec.upto chooseEndsSpec)

/-- 'clepsydralaw15.ChooseMiddle', WHERE WHAT IT READS IS OF BULK AT MOST 1048576: true; the input reads as it did. -/
def chooseMiddleUptoRow : OpenClaim := { program := "ytfcedalbamafiaa", sum := "590d31202f6ed1d051574644607e264a14587fb26c0cd5d61ccf119a7b2d6e19", func := "clepsydra/clepsydralaw15.ChooseMiddle", spec := "chooseMiddle", unfollowed := true, recurses := true, apart := false, narrowed := true }
def ChooseMiddleUptoSaid : Prop := chooseMiddleUptoRow.holds Try.pinned (OpenSpec.upto chooseMiddleSpec)

/-- 'clepsydralaw15.ChooseRegions', WHERE WHAT IT READS IS OF BULK AT MOST 1048576: true; the input reads as it did. -/
def chooseRegionsUptoRow : OpenClaim := { program := "ytfcedalbamafiaa", sum := "590d31202f6ed1d051574644607e264a14587fb26c0cd5d61ccf119a7b2d6e19", func := "clepsydra/clepsydralaw15.ChooseRegions", spec := "chooseRegions", unfollowed := true, recurses := true, apart := false, narrowed := true }
def ChooseRegionsUptoSaid : Prop := chooseRegionsUptoRow.holds Try.pinned (OpenSpec.upto chooseRegionsSpec)

/-- 'clepsydralaw15.ChooseOne', WHERE WHAT IT READS IS OF BULK AT MOST 1048576: true; the input reads as it did. -/
def chooseOneUptoRow : OpenClaim := { program := "ytfcedalbamafiaa", sum := "590d31202f6ed1d051574644607e264a14587fb26c0cd5d61ccf119a7b2d6e19", func := "clepsydra/clepsydralaw15.ChooseOne", spec := "chooseOne", unfollowed := true, recurses := true, apart := false, narrowed := true }
def ChooseOneUptoSaid : Prop := chooseOneUptoRow.holds Try.pinned (OpenSpec.upto chooseOneSpec)

/-- 'clepsydralaw15.ChooseClusters', WHERE WHAT IT READS IS OF BULK AT MOST 1048576: true; the input reads as it did. -/
def chooseClustersUptoRow : OpenClaim := { program := "ytfcedalbamafiaa", sum := "590d31202f6ed1d051574644607e264a14587fb26c0cd5d61ccf119a7b2d6e19", func := "clepsydra/clepsydralaw15.ChooseClusters", spec := "chooseClusters", unfollowed := true, recurses := true, apart := false, narrowed := true }
def ChooseClustersUptoSaid : Prop := chooseClustersUptoRow.holds Try.pinned (OpenSpec.upto chooseClustersSpec)

/-- 'clepsydralaw15.ChooseLeft', WHERE WHAT IT READS IS OF BULK AT MOST 1048576: true; the input reads as it did. -/
def chooseLeftUptoRow : OpenClaim := { program := "ytfcedalbamafiaa", sum := "590d31202f6ed1d051574644607e264a14587fb26c0cd5d61ccf119a7b2d6e19", func := "clepsydra/clepsydralaw15.ChooseLeft", spec := "chooseLeft", unfollowed := true, recurses := true, apart := false, narrowed := true }
def ChooseLeftUptoSaid : Prop := chooseLeftUptoRow.holds Try.pinned (OpenSpec.upto chooseLeftSpec)

end Rows
end Go.Proofs.Ytfcedalbamafiaa
