/-
  NARROWER THAN 'FOR EVERY INPUT', by the rows' own cells (each row's printed sentence says how): StampExchanges: laid · StampPrints: laid · StampBack: laid · StampThere: laid · StampShifts: laid · StampHalf: laid · StampMoves: laid · StampShorts: laid.
  DERIVED. THE GIVEN ROWS OF THIS SEAT. 8 by the template 'for every input the law returns true; each argument reads behind the call as it read before'; 0 by the template 'total and deterministic' (their statements: YthnleapnhkkeoaaDoorTotals.lean).
  GIVEN WITH THE SEED: the statements are not yours to turn. If you find one false, say at which input.
  Laid BY PROGRAM, IN A SANDBOX (cutbox-rows.mjs): the forced cells as the released guide's own fill.sh prints them over the translation fa99085f00d7cd40… (all of the seat's roots in one cut). By AI agents, Wed Nov 11 2026. No macro, syntax, notation, axiom, sorry.
-/
import Derived.Test.YthnleapnhkkeoaaDoorChecked
import GoSem.Claim
import GoSem.ClaimJoined
import GoSem.ClaimMapViews
import Derived.JoinedTies
import Derived.KernelRfl
namespace Go.Proofs.YthnleapnhkkeoaaDoor
/- THE CELL 'sum', in the pinned program and in every row, IS THE sha256 OF THE DUMP (.gsa) THAT YthnleapnhkkeoaaDoorProg.lean LOADS. Nothing in Lean hashes anything: it is a label: what it is worth is what the hold of that sum in a sandbox is worth. -/
noncomputable def Tryd.pinned : Pinned := { name := "ythnleapnhkkeoaadoor", sum := "fa99085f00d7cd401eaf9212631794cb79ffbc0c85162358f788a3f3d996cfb1", checked := Tryd.checked }
namespace Rows
def none {H : Type} : Left H := { results := [], args := [] }

/- WHAT THE LISTED PACKAGE-LEVEL VARIABLES READ AS WHEN THE CALL BEGINS. Each datum BY PROGRAM (the guide's laid-datum.mjs) off the statement by which the dump's own 'gosem.cut.vars' lays the variable. In a bare row this is a premise. The card (YthnleapnhkkeoaaDoorCards.lean) ties it to the program's text. -/
def laid_math_bits_deBruijn32tab {H : Type} : DataW H := .agg [.lit (.int .u8 0), .lit (.int .u8 1), .lit (.int .u8 28), .lit (.int .u8 2), .lit (.int .u8 29), .lit (.int .u8 14), .lit (.int .u8 24), .lit (.int .u8 3), .lit (.int .u8 30), .lit (.int .u8 22), .lit (.int .u8 20), .lit (.int .u8 15), .lit (.int .u8 25), .lit (.int .u8 17), .lit (.int .u8 4), .lit (.int .u8 8), .lit (.int .u8 31), .lit (.int .u8 27), .lit (.int .u8 13), .lit (.int .u8 23), .lit (.int .u8 21), .lit (.int .u8 19), .lit (.int .u8 16), .lit (.int .u8 7), .lit (.int .u8 26), .lit (.int .u8 12), .lit (.int .u8 18), .lit (.int .u8 6), .lit (.int .u8 11), .lit (.int .u8 5), .lit (.int .u8 10), .lit (.int .u8 9)]
def laid_math_bits_deBruijn64tab {H : Type} : DataW H := .agg [.lit (.int .u8 0), .lit (.int .u8 1), .lit (.int .u8 56), .lit (.int .u8 2), .lit (.int .u8 57), .lit (.int .u8 49), .lit (.int .u8 28), .lit (.int .u8 3), .lit (.int .u8 61), .lit (.int .u8 58), .lit (.int .u8 42), .lit (.int .u8 50), .lit (.int .u8 38), .lit (.int .u8 29), .lit (.int .u8 17), .lit (.int .u8 4), .lit (.int .u8 62), .lit (.int .u8 47), .lit (.int .u8 59), .lit (.int .u8 36), .lit (.int .u8 45), .lit (.int .u8 43), .lit (.int .u8 51), .lit (.int .u8 22), .lit (.int .u8 53), .lit (.int .u8 39), .lit (.int .u8 33), .lit (.int .u8 30), .lit (.int .u8 24), .lit (.int .u8 18), .lit (.int .u8 12), .lit (.int .u8 5), .lit (.int .u8 63), .lit (.int .u8 55), .lit (.int .u8 48), .lit (.int .u8 27), .lit (.int .u8 60), .lit (.int .u8 41), .lit (.int .u8 37), .lit (.int .u8 16), .lit (.int .u8 46), .lit (.int .u8 35), .lit (.int .u8 44), .lit (.int .u8 21), .lit (.int .u8 52), .lit (.int .u8 32), .lit (.int .u8 23), .lit (.int .u8 11), .lit (.int .u8 54), .lit (.int .u8 26), .lit (.int .u8 40), .lit (.int .u8 15), .lit (.int .u8 34), .lit (.int .u8 20), .lit (.int .u8 31), .lit (.int .u8 10), .lit (.int .u8 25), .lit (.int .u8 14), .lit (.int .u8 19), .lit (.int .u8 9), .lit (.int .u8 13), .lit (.int .u8 8), .lit (.int .u8 7), .lit (.int .u8 6)]
def laid_internal_strconv_uint64pow10 {H : Type} : DataW H := .agg [.lit (.int .u64 1), .lit (.int .u64 10), .lit (.int .u64 100), .lit (.int .u64 1000), .lit (.int .u64 10000), .lit (.int .u64 100000), .lit (.int .u64 1000000), .lit (.int .u64 10000000), .lit (.int .u64 100000000), .lit (.int .u64 1000000000), .lit (.int .u64 10000000000), .lit (.int .u64 100000000000), .lit (.int .u64 1000000000000), .lit (.int .u64 10000000000000), .lit (.int .u64 100000000000000), .lit (.int .u64 1000000000000000), .lit (.int .u64 10000000000000000), .lit (.int .u64 100000000000000000), .lit (.int .u64 1000000000000000000), .lit (.int .u64 10000000000000000000)]

/-- 'clepsydralaw04.StampExchanges': WHATEVER THE INPUT: true; the input reads as it did. -/
def stampExchangesSpec : ChangeSpec := { name := "stampExchanges", fn := fun _ => fun
  | [d1, d2, d3, d4] => { results := [.lit (.bool true)], args := [d1, d2, d3, d4] }
  | _ => none }
def stampExchangesRow : OpenClaim := { program := "ythnleapnhkkeoaadoor", sum := "fa99085f00d7cd401eaf9212631794cb79ffbc0c85162358f788a3f3d996cfb1", func := "clepsydra/clepsydralaw04.StampExchanges", spec := "stampExchanges", named := ["math/bits.divideError", "math/bits.overflowError", "internal/strconv.uint64pow10", "math/bits.deBruijn32tab", "math/bits.deBruijn64tab"], apart := false, laid := [("math/bits.deBruijn32tab", laid_math_bits_deBruijn32tab), ("math/bits.deBruijn64tab", laid_math_bits_deBruijn64tab), ("internal/strconv.uint64pow10", laid_internal_strconv_uint64pow10)] }
def StampExchangesSaid : Prop := stampExchangesRow.holds Tryd.pinned (OpenSpec.ofChange stampExchangesSpec)

/-- ITS FALSE NEIGHBOUR: 'it returns false'. Refute it at one input. -/
def stampExchangesWrong : ChangeSpec := { name := "stampExchanges", fn := fun _ => fun
  | [d1, d2, d3, d4] => { results := [.lit (.bool false)], args := [d1, d2, d3, d4] }
  | _ => none }
def StampExchangesWrongFalsely : Prop := stampExchangesRow.holds Tryd.pinned (OpenSpec.ofChange stampExchangesWrong)

/-- 'clepsydralaw04.StampPrints': WHATEVER THE INPUT: true; the input reads as it did. -/
def stampPrintsSpec : ChangeSpec := { name := "stampPrints", fn := fun _ => fun
  | [d1, d2] => { results := [.lit (.bool true)], args := [d1, d2] }
  | _ => none }
def stampPrintsRow : OpenClaim := { program := "ythnleapnhkkeoaadoor", sum := "fa99085f00d7cd401eaf9212631794cb79ffbc0c85162358f788a3f3d996cfb1", func := "clepsydra/clepsydralaw04.StampPrints", spec := "stampPrints", recurses := true, named := ["math/bits.divideError", "math/bits.overflowError", "internal/strconv.uint64pow10", "math/bits.deBruijn32tab", "math/bits.deBruijn64tab"], apart := false, laid := [("math/bits.deBruijn32tab", laid_math_bits_deBruijn32tab), ("math/bits.deBruijn64tab", laid_math_bits_deBruijn64tab), ("internal/strconv.uint64pow10", laid_internal_strconv_uint64pow10)] }
def StampPrintsSaid : Prop := stampPrintsRow.holds Tryd.pinned (OpenSpec.ofChange stampPrintsSpec)

/-- ITS FALSE NEIGHBOUR: 'it returns false'. Refute it at one input. -/
def stampPrintsWrong : ChangeSpec := { name := "stampPrints", fn := fun _ => fun
  | [d1, d2] => { results := [.lit (.bool false)], args := [d1, d2] }
  | _ => none }
def StampPrintsWrongFalsely : Prop := stampPrintsRow.holds Tryd.pinned (OpenSpec.ofChange stampPrintsWrong)

/-- 'clepsydralaw04.StampBack': WHATEVER THE INPUT: true; the input reads as it did. -/
def stampBackSpec : ChangeSpec := { name := "stampBack", fn := fun _ => fun
  | [d1, d2] => { results := [.lit (.bool true)], args := [d1, d2] }
  | _ => none }
def stampBackRow : OpenClaim := { program := "ythnleapnhkkeoaadoor", sum := "fa99085f00d7cd401eaf9212631794cb79ffbc0c85162358f788a3f3d996cfb1", func := "clepsydra/clepsydralaw04.StampBack", spec := "stampBack", named := ["internal/strconv.uint64pow10", "math/bits.deBruijn32tab", "math/bits.deBruijn64tab", "math/bits.divideError", "math/bits.overflowError"], apart := false, laid := [("math/bits.deBruijn32tab", laid_math_bits_deBruijn32tab), ("math/bits.deBruijn64tab", laid_math_bits_deBruijn64tab), ("internal/strconv.uint64pow10", laid_internal_strconv_uint64pow10)] }
def StampBackSaid : Prop := stampBackRow.holds Tryd.pinned (OpenSpec.ofChange stampBackSpec)

/-- ITS FALSE NEIGHBOUR: 'it returns false'. Refute it at one input. -/
def stampBackWrong : ChangeSpec := { name := "stampBack", fn := fun _ => fun
  | [d1, d2] => { results := [.lit (.bool false)], args := [d1, d2] }
  | _ => none }
def StampBackWrongFalsely : Prop := stampBackRow.holds Tryd.pinned (OpenSpec.ofChange stampBackWrong)

/-- 'clepsydralaw04.StampThere': WHATEVER THE INPUT: true; the input reads as it did. -/
def stampThereSpec : ChangeSpec := { name := "stampThere", fn := fun _ => fun
  | [d1, d2, d3] => { results := [.lit (.bool true)], args := [d1, d2, d3] }
  | _ => none }
def stampThereRow : OpenClaim := { program := "ythnleapnhkkeoaadoor", sum := "fa99085f00d7cd401eaf9212631794cb79ffbc0c85162358f788a3f3d996cfb1", func := "clepsydra/clepsydralaw04.StampThere", spec := "stampThere", named := ["math/bits.divideError", "math/bits.overflowError", "internal/strconv.uint64pow10", "math/bits.deBruijn32tab", "math/bits.deBruijn64tab"], apart := false, laid := [("math/bits.deBruijn32tab", laid_math_bits_deBruijn32tab), ("math/bits.deBruijn64tab", laid_math_bits_deBruijn64tab), ("internal/strconv.uint64pow10", laid_internal_strconv_uint64pow10)] }
def StampThereSaid : Prop := stampThereRow.holds Tryd.pinned (OpenSpec.ofChange stampThereSpec)

/-- ITS FALSE NEIGHBOUR: 'it returns false'. Refute it at one input. -/
def stampThereWrong : ChangeSpec := { name := "stampThere", fn := fun _ => fun
  | [d1, d2, d3] => { results := [.lit (.bool false)], args := [d1, d2, d3] }
  | _ => none }
def StampThereWrongFalsely : Prop := stampThereRow.holds Tryd.pinned (OpenSpec.ofChange stampThereWrong)

/-- 'clepsydralaw04.StampShifts': WHATEVER THE INPUT: true; the input reads as it did. -/
def stampShiftsSpec : ChangeSpec := { name := "stampShifts", fn := fun _ => fun
  | [d1, d2, d3, d4, d5] => { results := [.lit (.bool true)], args := [d1, d2, d3, d4, d5] }
  | _ => none }
def stampShiftsRow : OpenClaim := { program := "ythnleapnhkkeoaadoor", sum := "fa99085f00d7cd401eaf9212631794cb79ffbc0c85162358f788a3f3d996cfb1", func := "clepsydra/clepsydralaw04.StampShifts", spec := "stampShifts", named := ["math/bits.divideError", "math/bits.overflowError", "internal/strconv.uint64pow10", "math/bits.deBruijn32tab", "math/bits.deBruijn64tab"], apart := false, laid := [("math/bits.deBruijn32tab", laid_math_bits_deBruijn32tab), ("math/bits.deBruijn64tab", laid_math_bits_deBruijn64tab), ("internal/strconv.uint64pow10", laid_internal_strconv_uint64pow10)] }
def StampShiftsSaid : Prop := stampShiftsRow.holds Tryd.pinned (OpenSpec.ofChange stampShiftsSpec)

/-- ITS FALSE NEIGHBOUR: 'it returns false'. Refute it at one input. -/
def stampShiftsWrong : ChangeSpec := { name := "stampShifts", fn := fun _ => fun
  | [d1, d2, d3, d4, d5] => { results := [.lit (.bool false)], args := [d1, d2, d3, d4, d5] }
  | _ => none }
def StampShiftsWrongFalsely : Prop := stampShiftsRow.holds Tryd.pinned (OpenSpec.ofChange stampShiftsWrong)

/-- 'clepsydralaw04.StampHalf': WHATEVER THE INPUT: true; the input reads as it did. -/
def stampHalfSpec : ChangeSpec := { name := "stampHalf", fn := fun _ => fun
  | [d1, d2, d3, d4, d5] => { results := [.lit (.bool true)], args := [d1, d2, d3, d4, d5] }
  | _ => none }
def stampHalfRow : OpenClaim := { program := "ythnleapnhkkeoaadoor", sum := "fa99085f00d7cd401eaf9212631794cb79ffbc0c85162358f788a3f3d996cfb1", func := "clepsydra/clepsydralaw04.StampHalf", spec := "stampHalf", named := ["math/bits.divideError", "math/bits.overflowError", "internal/strconv.uint64pow10", "math/bits.deBruijn32tab", "math/bits.deBruijn64tab"], apart := false, laid := [("math/bits.deBruijn32tab", laid_math_bits_deBruijn32tab), ("math/bits.deBruijn64tab", laid_math_bits_deBruijn64tab), ("internal/strconv.uint64pow10", laid_internal_strconv_uint64pow10)] }
def StampHalfSaid : Prop := stampHalfRow.holds Tryd.pinned (OpenSpec.ofChange stampHalfSpec)

/-- ITS FALSE NEIGHBOUR: 'it returns false'. Refute it at one input. -/
def stampHalfWrong : ChangeSpec := { name := "stampHalf", fn := fun _ => fun
  | [d1, d2, d3, d4, d5] => { results := [.lit (.bool false)], args := [d1, d2, d3, d4, d5] }
  | _ => none }
def StampHalfWrongFalsely : Prop := stampHalfRow.holds Tryd.pinned (OpenSpec.ofChange stampHalfWrong)

/-- 'clepsydralaw04.StampMoves': WHATEVER THE INPUT: true; the input reads as it did. -/
def stampMovesSpec : ChangeSpec := { name := "stampMoves", fn := fun _ => fun
  | [d1, d2, d3] => { results := [.lit (.bool true)], args := [d1, d2, d3] }
  | _ => none }
def stampMovesRow : OpenClaim := { program := "ythnleapnhkkeoaadoor", sum := "fa99085f00d7cd401eaf9212631794cb79ffbc0c85162358f788a3f3d996cfb1", func := "clepsydra/clepsydralaw04.StampMoves", spec := "stampMoves", named := ["math/bits.divideError", "math/bits.overflowError", "internal/strconv.uint64pow10", "math/bits.deBruijn32tab", "math/bits.deBruijn64tab"], apart := false, laid := [("math/bits.deBruijn32tab", laid_math_bits_deBruijn32tab), ("math/bits.deBruijn64tab", laid_math_bits_deBruijn64tab), ("internal/strconv.uint64pow10", laid_internal_strconv_uint64pow10)] }
def StampMovesSaid : Prop := stampMovesRow.holds Tryd.pinned (OpenSpec.ofChange stampMovesSpec)

/-- ITS FALSE NEIGHBOUR: 'it returns false'. Refute it at one input. -/
def stampMovesWrong : ChangeSpec := { name := "stampMoves", fn := fun _ => fun
  | [d1, d2, d3] => { results := [.lit (.bool false)], args := [d1, d2, d3] }
  | _ => none }
def StampMovesWrongFalsely : Prop := stampMovesRow.holds Tryd.pinned (OpenSpec.ofChange stampMovesWrong)

/-- 'clepsydralaw04.StampShorts': WHATEVER THE INPUT: true; the input reads as it did. -/
def stampShortsSpec : ChangeSpec := { name := "stampShorts", fn := fun _ => fun
  | [d1, d2, d3] => { results := [.lit (.bool true)], args := [d1, d2, d3] }
  | _ => none }
def stampShortsRow : OpenClaim := { program := "ythnleapnhkkeoaadoor", sum := "fa99085f00d7cd401eaf9212631794cb79ffbc0c85162358f788a3f3d996cfb1", func := "clepsydra/clepsydralaw04.StampShorts", spec := "stampShorts", named := ["math/bits.divideError", "math/bits.overflowError", "internal/strconv.uint64pow10", "math/bits.deBruijn32tab", "math/bits.deBruijn64tab"], apart := false, laid := [("math/bits.deBruijn32tab", laid_math_bits_deBruijn32tab), ("math/bits.deBruijn64tab", laid_math_bits_deBruijn64tab), ("internal/strconv.uint64pow10", laid_internal_strconv_uint64pow10)] }
def StampShortsSaid : Prop := stampShortsRow.holds Tryd.pinned (OpenSpec.ofChange stampShortsSpec)

/-- ITS FALSE NEIGHBOUR: 'it returns false'. Refute it at one input. -/
def stampShortsWrong : ChangeSpec := { name := "stampShorts", fn := fun _ => fun
  | [d1, d2, d3] => { results := [.lit (.bool false)], args := [d1, d2, d3] }
  | _ => none }
def StampShortsWrongFalsely : Prop := stampShortsRow.holds Tryd.pinned (OpenSpec.ofChange stampShortsWrong)

/- THE SECOND FORM. 'bulk': how many values and letters a reading holds, each counted each time it is reached (what is shared counts as often as it is met; a slice's spare places count too). A statement '..UptoSaid' is the law's where the arguments, and the package variables that the reading takes, are together of bulk at most 1048576: NARROWER than '..Said'. Prove '..Said' where nothing that the law and all that it calls make is longer than what came in: it says more and counts as full. Else prove '..UptoSaid'. A law counts once. -/
mutual
def uptoBulk {H : Type} : DataW H → Nat
  | .lit (.string bytes) => bytes.length + 1
  | .lit _ => 1
  | .nil => 1
  | .ptr d => uptoBulk d + 1
  | .slice elems spare => uptoBulkAll elems + uptoBulkAll spare + 1
  | .agg parts => uptoBulkAll parts + 1
  | .iface _ d => uptoBulk d + 1
  | .map entries => uptoBulkEntries entries + 1
  | .held _ => 1
def uptoBulkAll {H : Type} : List (DataW H) → Nat
  | [] => 0
  | d :: r => uptoBulk d + uptoBulkAll r
def uptoBulkEntries {H : Type} : List (Lit × DataW H) → Nat
  | [] => 0
  | x :: r => uptoBulkEntry x + uptoBulkEntries r
def uptoBulkEntry {H : Type} : Lit × DataW H → Nat
  | (.string bytes, d) => bytes.length + uptoBulk d + 1
  | (_, d) => uptoBulk d + 1
 end
def uptoSmall : (H : Type) → List (DataW H) → Bool := fun _ ds => decide (uptoBulkAll ds ≤ 1048576)
def OpenSpec.upto (s : _root_.Go.ChangeSpec) : _root_.Go.OpenSpec := { _root_.Go.OpenSpec.ofChange s with cond := some uptoSmall }

/-- 'clepsydralaw04.StampExchanges', WHERE WHAT IT READS IS OF BULK AT MOST 1048576: true; the input reads as it did. -/
def stampExchangesUptoRow : OpenClaim := { program := "ythnleapnhkkeoaadoor", sum := "fa99085f00d7cd401eaf9212631794cb79ffbc0c85162358f788a3f3d996cfb1", func := "clepsydra/clepsydralaw04.StampExchanges", spec := "stampExchanges", named := ["math/bits.divideError", "math/bits.overflowError", "internal/strconv.uint64pow10", "math/bits.deBruijn32tab", "math/bits.deBruijn64tab"], apart := false, laid := [("math/bits.deBruijn32tab", laid_math_bits_deBruijn32tab), ("math/bits.deBruijn64tab", laid_math_bits_deBruijn64tab), ("internal/strconv.uint64pow10", laid_internal_strconv_uint64pow10)], narrowed := true }
def StampExchangesUptoSaid : Prop := stampExchangesUptoRow.holds Tryd.pinned (OpenSpec.upto stampExchangesSpec)

/-- 'clepsydralaw04.StampPrints', WHERE WHAT IT READS IS OF BULK AT MOST 1048576: true; the input reads as it did. -/
def stampPrintsUptoRow : OpenClaim := { program := "ythnleapnhkkeoaadoor", sum := "fa99085f00d7cd401eaf9212631794cb79ffbc0c85162358f788a3f3d996cfb1", func := "clepsydra/clepsydralaw04.StampPrints", spec := "stampPrints", recurses := true, named := ["math/bits.divideError", "math/bits.overflowError", "internal/strconv.uint64pow10", "math/bits.deBruijn32tab", "math/bits.deBruijn64tab"], apart := false, laid := [("math/bits.deBruijn32tab", laid_math_bits_deBruijn32tab), ("math/bits.deBruijn64tab", laid_math_bits_deBruijn64tab), ("internal/strconv.uint64pow10", laid_internal_strconv_uint64pow10)], narrowed := true }
def StampPrintsUptoSaid : Prop := stampPrintsUptoRow.holds Tryd.pinned (OpenSpec.upto stampPrintsSpec)

/-- 'clepsydralaw04.StampBack', WHERE WHAT IT READS IS OF BULK AT MOST 1048576: true; the input reads as it did. -/
def stampBackUptoRow : OpenClaim := { program := "ythnleapnhkkeoaadoor", sum := "fa99085f00d7cd401eaf9212631794cb79ffbc0c85162358f788a3f3d996cfb1", func := "clepsydra/clepsydralaw04.StampBack", spec := "stampBack", named := ["internal/strconv.uint64pow10", "math/bits.deBruijn32tab", "math/bits.deBruijn64tab", "math/bits.divideError", "math/bits.overflowError"], apart := false, laid := [("math/bits.deBruijn32tab", laid_math_bits_deBruijn32tab), ("math/bits.deBruijn64tab", laid_math_bits_deBruijn64tab), ("internal/strconv.uint64pow10", laid_internal_strconv_uint64pow10)], narrowed := true }
def StampBackUptoSaid : Prop := stampBackUptoRow.holds Tryd.pinned (OpenSpec.upto stampBackSpec)

/-- 'clepsydralaw04.StampThere', WHERE WHAT IT READS IS OF BULK AT MOST 1048576: true; the input reads as it did. -/
def stampThereUptoRow : OpenClaim := { program := "ythnleapnhkkeoaadoor", sum := "fa99085f00d7cd401eaf9212631794cb79ffbc0c85162358f788a3f3d996cfb1", func := "clepsydra/clepsydralaw04.StampThere", spec := "stampThere", named := ["math/bits.divideError", "math/bits.overflowError", "internal/strconv.uint64pow10", "math/bits.deBruijn32tab", "math/bits.deBruijn64tab"], apart := false, laid := [("math/bits.deBruijn32tab", laid_math_bits_deBruijn32tab), ("math/bits.deBruijn64tab", laid_math_bits_deBruijn64tab), ("internal/strconv.uint64pow10", laid_internal_strconv_uint64pow10)], narrowed := true }
def StampThereUptoSaid : Prop := stampThereUptoRow.holds Tryd.pinned (OpenSpec.upto stampThereSpec)

/-- 'clepsydralaw04.StampShifts', WHERE WHAT IT READS IS OF BULK AT MOST 1048576: true; the input reads as it did. -/
def stampShiftsUptoRow : OpenClaim := { program := "ythnleapnhkkeoaadoor", sum := "fa99085f00d7cd401eaf9212631794cb79ffbc0c85162358f788a3f3d996cfb1", func := "clepsydra/clepsydralaw04.StampShifts", spec := "stampShifts", named := ["math/bits.divideError", "math/bits.overflowError", "internal/strconv.uint64pow10", "math/bits.deBruijn32tab", "math/bits.deBruijn64tab"], apart := false, laid := [("math/bits.deBruijn32tab", laid_math_bits_deBruijn32tab), ("math/bits.deBruijn64tab", laid_math_bits_deBruijn64tab), ("internal/strconv.uint64pow10", laid_internal_strconv_uint64pow10)], narrowed := true }
def StampShiftsUptoSaid : Prop := stampShiftsUptoRow.holds Tryd.pinned (OpenSpec.upto stampShiftsSpec)

/-- 'clepsydralaw04.StampHalf', WHERE WHAT IT READS IS OF BULK AT MOST 1048576: true; the input reads as it did. -/
def stampHalfUptoRow : OpenClaim := { program := "ythnleapnhkkeoaadoor", sum := "fa99085f00d7cd401eaf9212631794cb79ffbc0c85162358f788a3f3d996cfb1", func := "clepsydra/clepsydralaw04.StampHalf", spec := "stampHalf", named := ["math/bits.divideError", "math/bits.overflowError", "internal/strconv.uint64pow10", "math/bits.deBruijn32tab", "math/bits.deBruijn64tab"], apart := false, laid := [("math/bits.deBruijn32tab", laid_math_bits_deBruijn32tab), ("math/bits.deBruijn64tab", laid_math_bits_deBruijn64tab), ("internal/strconv.uint64pow10", laid_internal_strconv_uint64pow10)], narrowed := true }
def StampHalfUptoSaid : Prop := stampHalfUptoRow.holds Tryd.pinned (OpenSpec.upto stampHalfSpec)

/-- 'clepsydralaw04.StampMoves', WHERE WHAT IT READS IS OF BULK AT MOST 1048576: true; the input reads as it did. -/
def stampMovesUptoRow : OpenClaim := { program := "ythnleapnhkkeoaadoor", sum := "fa99085f00d7cd401eaf9212631794cb79ffbc0c85162358f788a3f3d996cfb1", func := "clepsydra/clepsydralaw04.StampMoves", spec := "stampMoves", named := ["math/bits.divideError", "math/bits.overflowError", "internal/strconv.uint64pow10", "math/bits.deBruijn32tab", "math/bits.deBruijn64tab"], apart := false, laid := [("math/bits.deBruijn32tab", laid_math_bits_deBruijn32tab), ("math/bits.deBruijn64tab", laid_math_bits_deBruijn64tab), ("internal/strconv.uint64pow10", laid_internal_strconv_uint64pow10)], narrowed := true }
def StampMovesUptoSaid : Prop := stampMovesUptoRow.holds Tryd.pinned (OpenSpec.upto stampMovesSpec)

/-- 'clepsydralaw04.StampShorts', WHERE WHAT IT READS IS OF BULK AT MOST 1048576: true; the input reads as it did. -/
def stampShortsUptoRow : OpenClaim := { program := "ythnleapnhkkeoaadoor", sum := "fa99085f00d7cd401eaf9212631794cb79ffbc0c85162358f788a3f3d996cfb1", func := "clepsydra/clepsydralaw04.StampShorts", spec := "stampShorts", named := ["math/bits.divideError", "math/bits.overflowError", "internal/strconv.uint64pow10", "math/bits.deBruijn32tab", "math/bits.deBruijn64tab"], apart := false, laid := [("math/bits.deBruijn32tab", laid_math_bits_deBruijn32tab), ("math/bits.deBruijn64tab", laid_math_bits_deBruijn64tab), ("internal/strconv.uint64pow10", laid_internal_strconv_uint64pow10)], narrowed := true }
def StampShortsUptoSaid : Prop := stampShortsUptoRow.holds Tryd.pinned (OpenSpec.upto stampShortsSpec)

end Rows
end Go.Proofs.YthnleapnhkkeoaaDoor
