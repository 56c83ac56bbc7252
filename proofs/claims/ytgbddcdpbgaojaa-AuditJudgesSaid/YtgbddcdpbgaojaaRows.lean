/-
  No cell of these rows narrows 'for every input' (looked for: loops, veiled, ifaces, maps, wideKeys, modest, calm, conditions, laid).
  DERIVED. THE GIVEN ROWS OF THIS SEAT. 6 by the template 'for every input the law returns true; each argument reads behind the call as it read before'; 0 by the template 'total and deterministic' (their statements: YtgbddcdpbgaojaaTotals.lean).
  GIVEN WITH THE SEED: the statements are not yours to turn. If you find one false, say at which input.
  Laid BY PROGRAM, IN A SANDBOX (cutbox-rows.mjs): the forced cells as the released guide's own fill.sh prints them over the translation cdb8420c349cdf67… (all of the seat's roots in one cut). By AI agents, Wed Nov 11 2026. No macro, syntax, notation, axiom, sorry.
-/
import Derived.Test.YtgbddcdpbgaojaaChecked
import GoSem.Claim
import GoSem.ClaimJoined
import GoSem.ClaimMapViews
import Derived.JoinedTies
import Derived.KernelRfl
namespace Go.Proofs.Ytgbddcdpbgaojaa
/- THE CELL 'sum', in the pinned program and in every row, IS THE sha256 OF THE DUMP (.gsa) THAT YtgbddcdpbgaojaaProg.lean LOADS. Nothing in Lean hashes anything: it is a label: what it is worth is what the hold of that sum in a sandbox is worth. -/
noncomputable def Try.pinned : Pinned := { name := "ytgbddcdpbgaojaa", sum := "cdb8420c349cdf678fa9252ceb44edf436fd72402ee1ce06e7df12e3d7fd19b4", checked := Try.checked }
namespace Rows
def none {H : Type} : Left H := { results := [], args := [] }

/-- 'clepsydralaw19.AuditMatches': WHATEVER THE INPUT: true; the input reads as it did. -/
def auditMatchesSpec : ChangeSpec := { name := "auditMatches", fn := fun _ => fun
  | [d1, d2, d3] => { results := [.lit (.bool true)], args := [d1, d2, d3] }
  | _ => none }
def auditMatchesRow : OpenClaim := { program := "ytgbddcdpbgaojaa", sum := "cdb8420c349cdf678fa9252ceb44edf436fd72402ee1ce06e7df12e3d7fd19b4", func := "clepsydra/clepsydralaw19.AuditMatches", spec := "auditMatches", unfollowed := true, recurses := true, plainKeys := false, apart := false }
def AuditMatchesSaid : Prop := auditMatchesRow.holds Try.pinned (OpenSpec.ofChange auditMatchesSpec)

/-- ITS FALSE NEIGHBOUR: 'it returns false'. Refute it at one input. -/
def auditMatchesWrong : ChangeSpec := { name := "auditMatches", fn := fun _ => fun
  | [d1, d2, d3] => { results := [.lit (.bool false)], args := [d1, d2, d3] }
  | _ => none }
def AuditMatchesWrongFalsely : Prop := auditMatchesRow.holds Try.pinned (OpenSpec.ofChange auditMatchesWrong)

/-- 'clepsydralaw19.AuditJudges': WHATEVER THE INPUT: true; the input reads as it did. -/
def auditJudgesSpec : ChangeSpec := { name := "auditJudges", fn := fun _ => fun
  | [d1, d2] => { results := [.lit (.bool true)], args := [d1, d2] }
  | _ => none }
def auditJudgesRow : OpenClaim := { program := "ytgbddcdpbgaojaa", sum := "cdb8420c349cdf678fa9252ceb44edf436fd72402ee1ce06e7df12e3d7fd19b4", func := "clepsydra/clepsydralaw19.AuditJudges", spec := "auditJudges", unfollowed := true, recurses := true, plainKeys := false, apart := false }
def AuditJudgesSaid : Prop := auditJudgesRow.holds Try.pinned (OpenSpec.ofChange auditJudgesSpec)

/-- ITS FALSE NEIGHBOUR: 'it returns false'. Refute it at one input. -/
def auditJudgesWrong : ChangeSpec := { name := "auditJudges", fn := fun _ => fun
  | [d1, d2] => { results := [.lit (.bool false)], args := [d1, d2] }
  | _ => none }
def AuditJudgesWrongFalsely : Prop := auditJudgesRow.holds Try.pinned (OpenSpec.ofChange auditJudgesWrong)

/-- 'clepsydralaw19.AuditOnce': WHATEVER THE INPUT: true; the input reads as it did. -/
def auditOnceSpec : ChangeSpec := { name := "auditOnce", fn := fun _ => fun
  | [d] => { results := [.lit (.bool true)], args := [d] }
  | _ => none }
def auditOnceRow : OpenClaim := { program := "ytgbddcdpbgaojaa", sum := "cdb8420c349cdf678fa9252ceb44edf436fd72402ee1ce06e7df12e3d7fd19b4", func := "clepsydra/clepsydralaw19.AuditOnce", spec := "auditOnce", unfollowed := true, recurses := true, plainKeys := false, apart := false }
def AuditOnceSaid : Prop := auditOnceRow.holds Try.pinned (OpenSpec.ofChange auditOnceSpec)

/-- ITS FALSE NEIGHBOUR: 'it returns false'. Refute it at one input. -/
def auditOnceWrong : ChangeSpec := { name := "auditOnce", fn := fun _ => fun
  | [d] => { results := [.lit (.bool false)], args := [d] }
  | _ => none }
def AuditOnceWrongFalsely : Prop := auditOnceRow.holds Try.pinned (OpenSpec.ofChange auditOnceWrong)

/-- 'clepsydralaw19.AuditBehind': WHATEVER THE INPUT: true; the input reads as it did. -/
def auditBehindSpec : ChangeSpec := { name := "auditBehind", fn := fun _ => fun
  | [d1, d2, d3] => { results := [.lit (.bool true)], args := [d1, d2, d3] }
  | _ => none }
def auditBehindRow : OpenClaim := { program := "ytgbddcdpbgaojaa", sum := "cdb8420c349cdf678fa9252ceb44edf436fd72402ee1ce06e7df12e3d7fd19b4", func := "clepsydra/clepsydralaw19.AuditBehind", spec := "auditBehind", unfollowed := true, recurses := true, plainKeys := false, apart := false }
def AuditBehindSaid : Prop := auditBehindRow.holds Try.pinned (OpenSpec.ofChange auditBehindSpec)

/-- ITS FALSE NEIGHBOUR: 'it returns false'. Refute it at one input. -/
def auditBehindWrong : ChangeSpec := { name := "auditBehind", fn := fun _ => fun
  | [d1, d2, d3] => { results := [.lit (.bool false)], args := [d1, d2, d3] }
  | _ => none }
def AuditBehindWrongFalsely : Prop := auditBehindRow.holds Try.pinned (OpenSpec.ofChange auditBehindWrong)

/-- 'clepsydralaw19.AuditMore': WHATEVER THE INPUT: true; the input reads as it did. -/
def auditMoreSpec : ChangeSpec := { name := "auditMore", fn := fun _ => fun
  | [d1, d2] => { results := [.lit (.bool true)], args := [d1, d2] }
  | _ => none }
def auditMoreRow : OpenClaim := { program := "ytgbddcdpbgaojaa", sum := "cdb8420c349cdf678fa9252ceb44edf436fd72402ee1ce06e7df12e3d7fd19b4", func := "clepsydra/clepsydralaw19.AuditMore", spec := "auditMore", unfollowed := true, recurses := true, plainKeys := false, apart := false }
def AuditMoreSaid : Prop := auditMoreRow.holds Try.pinned (OpenSpec.ofChange auditMoreSpec)

/-- ITS FALSE NEIGHBOUR: 'it returns false'. Refute it at one input. -/
def auditMoreWrong : ChangeSpec := { name := "auditMore", fn := fun _ => fun
  | [d1, d2] => { results := [.lit (.bool false)], args := [d1, d2] }
  | _ => none }
def AuditMoreWrongFalsely : Prop := auditMoreRow.holds Try.pinned (OpenSpec.ofChange auditMoreWrong)

/-- 'clepsydralaw19.AuditAll': WHATEVER THE INPUT: true; the input reads as it did. -/
def auditAllSpec : ChangeSpec := { name := "auditAll", fn := fun _ => fun
  | [d1, d2] => { results := [.lit (.bool true)], args := [d1, d2] }
  | _ => none }
def auditAllRow : OpenClaim := { program := "ytgbddcdpbgaojaa", sum := "cdb8420c349cdf678fa9252ceb44edf436fd72402ee1ce06e7df12e3d7fd19b4", func := "clepsydra/clepsydralaw19.AuditAll", spec := "auditAll", unfollowed := true, recurses := true, plainKeys := false, apart := false }
def AuditAllSaid : Prop := auditAllRow.holds Try.pinned (OpenSpec.ofChange auditAllSpec)

/-- ITS FALSE NEIGHBOUR: 'it returns false'. Refute it at one input. -/
def auditAllWrong : ChangeSpec := { name := "auditAll", fn := fun _ => fun
  | [d1, d2] => { results := [.lit (.bool false)], args := [d1, d2] }
  | _ => none }
def AuditAllWrongFalsely : Prop := auditAllRow.holds Try.pinned (OpenSpec.ofChange auditAllWrong)

/- THE SECOND FORM. 'bulk': how many values and letters a reading holds, each counted each time it is reached (what is shared counts as often as it is met; a slice's spare places count too). A statement '..UptoSaid' is the law's where the arguments, and the package variables that the reading takes, are together of bulk at most 1048576: NARROWER than '..Said'. Prove '..Said' where nothing that the law and all that it calls make is longer than what came in: it says more and counts as full. Else prove '..UptoSaid'. A law counts once. -/
mutual
def uptoBulk {H : Type} : DataW H → Nat
  | .lit (.string bytes) => bytes.length + 1
  | .lit _ => 1
  | .nil => 1
  | .ptr d => uptoBulk d + 1
  | .slice elems spare => uptoBulkAll elems + uptoBulkAll spare + 1
  | .agg parts => uptoBulkAll parts + 1
  | .iface _ d => uptoBulk d + 1
  | .map entries => uptoBulkEntries entries + 1
  | .held _ => 1
def uptoBulkAll {H : Type} : List (DataW H) → Nat
  | [] => 0
  | d :: r => uptoBulk d + uptoBulkAll r
def uptoBulkEntries {H : Type} : List (Lit × DataW H) → Nat
  | [] => 0
  | x :: r => uptoBulkEntry x + uptoBulkEntries r
def uptoBulkEntry {H : Type} : Lit × DataW H → Nat
  | (.string bytes, d) => bytes.length + uptoBulk d + 1
  | (_, d) => uptoBulk d + 1
 end
def uptoSmall : (H : Type) → List (DataW H) → Bool := fun _ ds => decide (uptoBulkAll ds ≤ 1048576)
def OpenSpec.upto (s : _root_.Go.ChangeSpec) : _root_.Go.OpenSpec := { _root_.Go.OpenSpec.ofChange s with cond := some uptoSmall }

/-- 'clepsydralaw19.AuditMatches', WHERE WHAT IT READS IS OF BULK AT MOST 1048576: true; the input reads as it did. -/
def auditMatchesUptoRow : OpenClaim := { program := "ytgbddcdpbgaojaa", sum := "cdb8420c349cdf678fa9252ceb44edf436fd72402ee1ce06e7df12e3d7fd19b4", func := "clepsydra/clepsydralaw19.AuditMatches", spec := "auditMatches", unfollowed := true, recurses := true, plainKeys := false, apart := false, narrowed := true }
def AuditMatchesUptoSaid : Prop := auditMatchesUptoRow.holds Try.pinned (OpenSpec.upto auditMatchesSpec)

/-- 'clepsydralaw19.AuditJudges', WHERE WHAT IT READS IS OF BULK AT MOST 1048576: true; the input reads as it did. -/
def auditJudgesUptoRow : OpenClaim := { program := "ytgbddcdpbgaojaa", sum := "cdb8420c349cdf678fa9252ceb44edf436fd72402ee1ce06e7df12e3d7fd19b4", func := "clepsydra/clepsydralaw19.AuditJudges", spec := "auditJudges", unfollowed := true, recurses := true, plainKeys := false, apart := false, narrowed := true }
def AuditJudgesUptoSaid : Prop := auditJudgesUptoRow.holds Try.pinned (OpenSpec.upto auditJudgesSpec)

/-- 'clepsydralaw19.AuditOnce', WHERE WHAT IT READS IS OF BULK AT MOST 1048576: true; the input reads as it did. -/
def auditOnceUptoRow : OpenClaim := { program := "ytgbddcdpbgaojaa", sum := "cdb8420c349cdf678fa9252ceb44edf436fd72402ee1ce06e7df12e3d7fd19b4", func := "clepsydra/clepsydralaw19.AuditOnce", spec := "auditOnce", unfollowed := true, recurses := true, plainKeys := false, apart := false, narrowed := true }
def AuditOnceUptoSaid : Prop := auditOnceUptoRow.holds Try.pinned (OpenSpec.upto auditOnceSpec)

/-- 'clepsydralaw19.AuditBehind', WHERE WHAT IT READS IS OF BULK AT MOST 1048576: true; the input reads as it did. -/
def auditBehindUptoRow : OpenClaim := { program := "ytgbddcdpbgaojaa", sum := "cdb8420c349cdf678fa9252ceb44edf436fd72402ee1ce06e7df12e3d7fd19b4", func := "clepsydra/clepsydralaw19.AuditBehind", spec := "auditBehind", unfollowed := true, recurses := true, plainKeys := false, apart := false, narrowed := true }
def AuditBehindUptoSaid : Prop := auditBehindUptoRow.holds Try.pinned (OpenSpec.upto auditBehindSpec)

/-- 'clepsydralaw19.AuditMore', WHERE WHAT IT READS IS OF BULK AT MOST 1048576: true; the input reads as it did. -/
def auditMoreUptoRow : OpenClaim := { program := "ytgbddcdpbgaojaa", sum := "cdb8420c349cdf678fa9252ceb44edf436fd72402ee1ce06e7df12e3d7fd19b4", func := "clepsydra/clepsydralaw19.AuditMore", spec := "auditMore", unfollowed := true, recurses := true, plainKeys := false, apart := false, narrowed := true }
def AuditMoreUptoSaid : Prop := auditMoreUptoRow.holds Try.pinned (OpenSpec.upto auditMoreSpec)

/-- 'clepsydralaw19.AuditAll', WHERE WHAT IT READS IS OF BULK AT MOST 1048576: true; the input reads as it did. -/
def auditAllUptoRow : OpenClaim := { program := "ytgbddcdpbgaojaa", sum := "cdb8420c349cdf678fa9252ceb44edf436fd72402ee1ce06e7df12e3d7fd19b4", func := "clepsydra/clepsydralaw19.AuditAll", spec := "auditAll", unfollowed := true, recurses := true, plainKeys := false, apart := false, narrowed := true }
def AuditAllUptoSaid : Prop := auditAllUptoRow.holds Try.pinned (OpenSpec.upto auditAllSpec)

end Rows
end Go.Proofs.Ytgbddcdpbgaojaa
