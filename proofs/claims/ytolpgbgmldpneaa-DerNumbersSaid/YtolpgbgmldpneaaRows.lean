/-
  NARROWER THAN 'FOR EVERY INPUT', by the rows' own cells (each row's printed sentence says how): DerWrites: loops · DerBack: loops · DerEnds: loops · DerInside: loops · DerNumbers: loops.
  DERIVED. THE GIVEN ROWS OF THIS SEAT. 6 by the template 'for every input the law returns true; each argument reads behind the call as it read before'; 0 by the template 'total and deterministic' (their statements: YtolpgbgmldpneaaTotals.lean).
  GIVEN WITH THE SEED: the statements are not yours to turn. If you find one false, say at which input.
  Laid BY PROGRAM, IN A SANDBOX (cutbox-rows.mjs): the forced cells as the released guide's own fill.sh prints them over the translation 91b03e59c0f6faef… (all of the seat's roots in one cut). By AI agents, Wed Nov 11 2026. No macro, syntax, notation, axiom, sorry.
-/
import Derived.Test.YtolpgbgmldpneaaChecked
import GoSem.Claim
import GoSem.ClaimJoined
import GoSem.ClaimMapViews
import Derived.JoinedTies
import Derived.KernelRfl
namespace Go.Proofs.Ytolpgbgmldpneaa
/- THE CELL 'sum', in the pinned program and in every row, IS THE sha256 OF THE DUMP (.gsa) THAT YtolpgbgmldpneaaProg.lean LOADS. Nothing in Lean hashes anything: it is a label: what it is worth is what the hold of that sum in a sandbox is worth. -/
noncomputable def Try.pinned : Pinned := { name := "ytolpgbgmldpneaa", sum := "91b03e59c0f6faefe42dd03a194cba049216939d4594cdd8d97d4a3f6748b4cb", checked := Try.checked }
namespace Rows
def none {H : Type} : Left H := { results := [], args := [] }

/-- 'clepsydralaw07.DerWrites': WHATEVER THE INPUT: true; the input reads as it did. -/
def derWritesSpec : ChangeSpec := { name := "derWrites", fn := fun _ => fun
  | [d] => { results := [.lit (.bool true)], args := [d] }
  | _ => none }
def derWritesRow : OpenClaim := { program := "ytolpgbgmldpneaa", sum := "91b03e59c0f6faefe42dd03a194cba049216939d4594cdd8d97d4a3f6748b4cb", func := "clepsydra/clepsydralaw07.DerWrites", spec := "derWrites", inPlace := ["internal/bytealg.Compare"], unfollowed := true, recurses := true, loops := true, apart := false }
def DerWritesSaid : Prop := derWritesRow.holds Try.pinned (OpenSpec.ofChange derWritesSpec)

/-- ITS FALSE NEIGHBOUR: 'it returns false'. Refute it at one input. -/
def derWritesWrong : ChangeSpec := { name := "derWrites", fn := fun _ => fun
  | [d] => { results := [.lit (.bool false)], args := [d] }
  | _ => none }
def DerWritesWrongFalsely : Prop := derWritesRow.holds Try.pinned (OpenSpec.ofChange derWritesWrong)

/-- 'clepsydralaw07.DerBack': WHATEVER THE INPUT: true; the input reads as it did. -/
def derBackSpec : ChangeSpec := { name := "derBack", fn := fun _ => fun
  | [d1, d2] => { results := [.lit (.bool true)], args := [d1, d2] }
  | _ => none }
def derBackRow : OpenClaim := { program := "ytolpgbgmldpneaa", sum := "91b03e59c0f6faefe42dd03a194cba049216939d4594cdd8d97d4a3f6748b4cb", func := "clepsydra/clepsydralaw07.DerBack", spec := "derBack", inPlace := ["internal/bytealg.Compare"], unfollowed := true, recurses := true, loops := true, apart := false }
def DerBackSaid : Prop := derBackRow.holds Try.pinned (OpenSpec.ofChange derBackSpec)

/-- ITS FALSE NEIGHBOUR: 'it returns false'. Refute it at one input. -/
def derBackWrong : ChangeSpec := { name := "derBack", fn := fun _ => fun
  | [d1, d2] => { results := [.lit (.bool false)], args := [d1, d2] }
  | _ => none }
def DerBackWrongFalsely : Prop := derBackRow.holds Try.pinned (OpenSpec.ofChange derBackWrong)

/-- 'clepsydralaw07.DerEnds': WHATEVER THE INPUT: true; the input reads as it did. -/
def derEndsSpec : ChangeSpec := { name := "derEnds", fn := fun _ => fun
  | [d1, d2, d3] => { results := [.lit (.bool true)], args := [d1, d2, d3] }
  | _ => none }
def derEndsRow : OpenClaim := { program := "ytolpgbgmldpneaa", sum := "91b03e59c0f6faefe42dd03a194cba049216939d4594cdd8d97d4a3f6748b4cb", func := "clepsydra/clepsydralaw07.DerEnds", spec := "derEnds", inPlace := ["internal/bytealg.Compare"], unfollowed := true, recurses := true, loops := true, apart := false }
def DerEndsSaid : Prop := derEndsRow.holds Try.pinned (OpenSpec.ofChange derEndsSpec)

/-- ITS FALSE NEIGHBOUR: 'it returns false'. Refute it at one input. -/
def derEndsWrong : ChangeSpec := { name := "derEnds", fn := fun _ => fun
  | [d1, d2, d3] => { results := [.lit (.bool false)], args := [d1, d2, d3] }
  | _ => none }
def DerEndsWrongFalsely : Prop := derEndsRow.holds Try.pinned (OpenSpec.ofChange derEndsWrong)

/-- 'clepsydralaw07.DerInside': WHATEVER THE INPUT: true; the input reads as it did. -/
def derInsideSpec : ChangeSpec := { name := "derInside", fn := fun _ => fun
  | [d1, d2] => { results := [.lit (.bool true)], args := [d1, d2] }
  | _ => none }
def derInsideRow : OpenClaim := { program := "ytolpgbgmldpneaa", sum := "91b03e59c0f6faefe42dd03a194cba049216939d4594cdd8d97d4a3f6748b4cb", func := "clepsydra/clepsydralaw07.DerInside", spec := "derInside", inPlace := ["internal/bytealg.Compare"], unfollowed := true, recurses := true, loops := true, apart := false }
def DerInsideSaid : Prop := derInsideRow.holds Try.pinned (OpenSpec.ofChange derInsideSpec)

/-- ITS FALSE NEIGHBOUR: 'it returns false'. Refute it at one input. -/
def derInsideWrong : ChangeSpec := { name := "derInside", fn := fun _ => fun
  | [d1, d2] => { results := [.lit (.bool false)], args := [d1, d2] }
  | _ => none }
def DerInsideWrongFalsely : Prop := derInsideRow.holds Try.pinned (OpenSpec.ofChange derInsideWrong)

/-- 'clepsydralaw07.DerNumbers': WHATEVER THE INPUT: true; the input reads as it did. -/
def derNumbersSpec : ChangeSpec := { name := "derNumbers", fn := fun _ => fun
  | [d1, d2, d3, d4] => { results := [.lit (.bool true)], args := [d1, d2, d3, d4] }
  | _ => none }
def derNumbersRow : OpenClaim := { program := "ytolpgbgmldpneaa", sum := "91b03e59c0f6faefe42dd03a194cba049216939d4594cdd8d97d4a3f6748b4cb", func := "clepsydra/clepsydralaw07.DerNumbers", spec := "derNumbers", inPlace := ["internal/bytealg.Compare", "slices.overlaps[byte]"], unfollowed := true, recurses := true, loops := true, apart := false }
def DerNumbersSaid : Prop := derNumbersRow.holds Try.pinned (OpenSpec.ofChange derNumbersSpec)

/-- ITS FALSE NEIGHBOUR: 'it returns false'. Refute it at one input. -/
def derNumbersWrong : ChangeSpec := { name := "derNumbers", fn := fun _ => fun
  | [d1, d2, d3, d4] => { results := [.lit (.bool false)], args := [d1, d2, d3, d4] }
  | _ => none }
def DerNumbersWrongFalsely : Prop := derNumbersRow.holds Try.pinned (OpenSpec.ofChange derNumbersWrong)

/-- 'clepsydralaw07.DerThere': WHATEVER THE INPUT: true; the input reads as it did. -/
def derThereSpec : ChangeSpec := { name := "derThere", fn := fun _ => fun
  | [d1, d2, d3] => { results := [.lit (.bool true)], args := [d1, d2, d3] }
  | _ => none }
def derThereRow : OpenClaim := { program := "ytolpgbgmldpneaa", sum := "91b03e59c0f6faefe42dd03a194cba049216939d4594cdd8d97d4a3f6748b4cb", func := "clepsydra/clepsydralaw07.DerThere", spec := "derThere", inPlace := ["internal/bytealg.Compare", "slices.overlaps[byte]"], unfollowed := true, recurses := true, apart := false }
def DerThereSaid : Prop := derThereRow.holds Try.pinned (OpenSpec.ofChange derThereSpec)

/-- ITS FALSE NEIGHBOUR: 'it returns false'. Refute it at one input. -/
def derThereWrong : ChangeSpec := { name := "derThere", fn := fun _ => fun
  | [d1, d2, d3] => { results := [.lit (.bool false)], args := [d1, d2, d3] }
  | _ => none }
def DerThereWrongFalsely : Prop := derThereRow.holds Try.pinned (OpenSpec.ofChange derThereWrong)

/- THE SECOND FORM. 'bulk': how many values and letters a reading holds, each counted each time it is reached (what is shared counts as often as it is met; a slice's spare places count too). A statement '..UptoSaid' is the law's where the arguments, and the package variables that the reading takes, are together of bulk at most 1048576: NARROWER than '..Said'. Prove '..Said' where nothing that the law and all that it calls make is longer than what came in: it says more and counts as full. Else prove '..UptoSaid'. A law counts once. -/
mutual
def uptoBulk {H : Type} : DataW H → Nat
  | .lit (.string bytes) => bytes.length + 1
  | .lit _ => 1
  | .nil => 1
  | .ptr d => uptoBulk d + 1
  | .slice elems spare => uptoBulkAll elems + uptoBulkAll spare + 1
  | .agg parts => uptoBulkAll parts + 1
  | .iface _ d => uptoBulk d + 1
  | .map entries => uptoBulkEntries entries + 1
  | .held _ => 1
def uptoBulkAll {H : Type} : List (DataW H) → Nat
  | [] => 0
  | d :: r => uptoBulk d + uptoBulkAll r
def uptoBulkEntries {H : Type} : List (Lit × DataW H) → Nat
  | [] => 0
  | x :: r => uptoBulkEntry x + uptoBulkEntries r
def uptoBulkEntry {H : Type} : Lit × DataW H → Nat
  | (.string bytes, d) => bytes.length + uptoBulk d + 1
  | (_, d) => uptoBulk d + 1
 end
def uptoSmall : (H : Type) → List (DataW H) → Bool := fun _ ds => decide (uptoBulkAll ds ≤ 1048576)
def OpenSpec.upto (s : _root_.Go.ChangeSpec) : _root_.Go.OpenSpec := { _root_.Go.OpenSpec.ofChange s with cond := some uptoSmall }

/-- 'clepsydralaw07.DerWrites', WHERE WHAT IT READS IS OF BULK AT MOST 1048576: true; the input reads as it did. -/
def derWritesUptoRow : OpenClaim := { program := "ytolpgbgmldpneaa", sum := "91b03e59c0f6faefe42dd03a194cba049216939d4594cdd8d97d4a3f6748b4cb", func := "clepsydra/clepsydralaw07.DerWrites", spec := "derWrites", inPlace := ["internal/bytealg.Compare"], unfollowed := true, recurses := true, loops := true, apart := false, narrowed := true }
def DerWritesUptoSaid : Prop := derWritesUptoRow.holds Try.pinned (OpenSpec.upto derWritesSpec)

/-- 'clepsydralaw07.DerBack', WHERE WHAT IT READS IS OF BULK AT MOST 1048576: true; the input reads as it did. -/
def derBackUptoRow : OpenClaim := { program := "ytolpgbgmldpneaa", sum := "91b03e59c0f6faefe42dd03a194cba049216939d4594cdd8d97d4a3f6748b4cb", func := "clepsydra/clepsydralaw07.DerBack", spec := "derBack", inPlace := ["internal/bytealg.Compare"], unfollowed := true, recurses := true, loops := true, apart := false, narrowed := true }
def DerBackUptoSaid : Prop := derBackUptoRow.holds Try.pinned (OpenSpec.upto derBackSpec)

/-- 'clepsydralaw07.DerEnds', WHERE WHAT IT READS IS OF BULK AT MOST 1048576: true; the input reads as it did. -/
def derEndsUptoRow : OpenClaim := { program := "ytolpgbgmldpneaa", sum := "91b03e59c0f6faefe42dd03a194cba049216939d4594cdd8d97d4a3f6748b4cb", func := "clepsydra/clepsydralaw07.DerEnds", spec := "derEnds", inPlace := ["internal/bytealg.Compare"], unfollowed := true, recurses := true, loops := true, apart := false, narrowed := true }
def DerEndsUptoSaid : Prop := derEndsUptoRow.holds Try.pinned (OpenSpec.upto derEndsSpec)

/-- 'clepsydralaw07.DerInside', WHERE WHAT IT READS IS OF BULK AT MOST 1048576: true; the input reads as it did. -/
def derInsideUptoRow : OpenClaim := { program := "ytolpgbgmldpneaa", sum := "91b03e59c0f6faefe42dd03a194cba049216939d4594cdd8d97d4a3f6748b4cb", func := "clepsydra/clepsydralaw07.DerInside", spec := "derInside", inPlace := ["internal/bytealg.Compare"], unfollowed := true, recurses := true, loops := true, apart := false, narrowed := true }
def DerInsideUptoSaid : Prop := derInsideUptoRow.holds Try.pinned (OpenSpec.upto derInsideSpec)

/-- 'clepsydralaw07.DerNumbers', WHERE WHAT IT READS IS OF BULK AT MOST 1048576: true; the input reads as it did. -/
def derNumbersUptoRow : OpenClaim := { program := "ytolpgbgmldpneaa", sum := "91b03e59c0f6faefe42dd03a194cba049216939d4594cdd8d97d4a3f6748b4cb", func := "clepsydra/clepsydralaw07.DerNumbers", spec := "derNumbers", inPlace := ["internal/bytealg.Compare", "slices.overlaps[byte]"], unfollowed := true, recurses := true, loops := true, apart := false, narrowed := true }
def DerNumbersUptoSaid : Prop := derNumbersUptoRow.holds Try.pinned (OpenSpec.upto derNumbersSpec)

/-- 'clepsydralaw07.DerThere', WHERE WHAT IT READS IS OF BULK AT MOST 1048576: true; the input reads as it did. -/
def derThereUptoRow : OpenClaim := { program := "ytolpgbgmldpneaa", sum := "91b03e59c0f6faefe42dd03a194cba049216939d4594cdd8d97d4a3f6748b4cb", func := "clepsydra/clepsydralaw07.DerThere", spec := "derThere", inPlace := ["internal/bytealg.Compare", "slices.overlaps[byte]"], unfollowed := true, recurses := true, apart := false, narrowed := true }
def DerThereUptoSaid : Prop := derThereUptoRow.holds Try.pinned (OpenSpec.upto derThereSpec)

end Rows
end Go.Proofs.Ytolpgbgmldpneaa
