/- What the document's Parse does. It bears no condition. -/
import Derived.Test.YthnleapnhkkeoaaDoorSpJ
-- BYTES bytsK
-- SUB (b0 b1 : Bool)  => 
-- SUB cstF b0 => oneF (rqV s 0 0) []
-- SUB cstF b1 => oneF (rqW s sec i (IntKind.u64.wrap (sec * (4294967296 : Int))) (printL (IntKind.u64.wrap (sec * (4294967296 : Int))).toNat) 31) []
-- SUB bif b0 => bif sameS (rqV s 0 0) []
-- SUB bif b1 => bif sameS (rqW s sec i (IntKind.u64.wrap (sec * (4294967296 : Int))) (printL (IntKind.u64.wrap (sec * (4294967296 : Int))).toNat) 31) []
namespace Go.Proofs.YthnleapnhkkeoaaDoor
open Go Go.Im
set_option linter.unusedVariables false
set_option linter.unusedSimpArgs false
noncomputable section
def oneF (vs0 : List IV) (bx0 : List Blk) (e : Ex) (vs1 : List IV) (bx1 : List Blk) : LiveF := fun vs bx => [(@decide (vs = vs0 ∧ bx = bx0) (Classical.propDecidable _), e, vs1, bx1)]
def cstF (b : Bool) (e : Ex) (vs1 : List IV) (bx1 : List Blk) : LiveF := fun _ _ => [(b, e, vs1, bx1)]
def sameS (vs : List IV) (bx : List Blk) : Bool := @decide (vs = vs ∧ bx = bx) (Classical.propDecidable _)
theorem sameS_t {vs : List IV} {bx : List Blk} : sameS vs bx = true := @decide_eq_true _ (Classical.propDecidable _) ⟨rfl, rfl⟩
end
def noL : LoopF := fun _ _ => []
abbrev rqV (s : List UInt8) (sec i : Int) : List IV := [.str s, .int .u64 0, .int .i64 0, .int .u64 sec, .int .i64 i, .undef, .undef, .undef]
abbrev rqW (s : List UInt8) (sec i t : Int) (low : List UInt8) (k : Int) : List IV := [.str s, .int .u64 0, .int .i64 0, .int .u64 sec, .int .i64 i, .int .u64 t, .str low, .int .i64 k]
theorem rq_r1 (sp : FuncId → Option SpecF) (s : List UInt8) (sec i : Int) : Rd sp 17 28 (Sx 17 (rqV s sec i) []) =
  (bif (bif decide (i < (↑s.length : Int)) then decide (i < (10 : Int)) else false) == true then
     bif decide ((0 : Int) ≤ i ∧ i < (↑s.length : Int)) then
       bif (bif true then decide ((↑(s.getD i.toNat (0 : UInt8)).toNat : Int) ≥ (48 : Int)) else false) == true then
         bif decide ((0 : Int) ≤ i ∧ i < (↑s.length : Int)) then
           bif bif true then decide ((↑(s.getD i.toNat (0 : UInt8)).toNat : Int) ≤ (57 : Int)) else false then
             bif decide ((0 : Int) ≤ i ∧ i < (↑s.length : Int)) then
               some
                 (Ex.normal,
                   Sx (17 : Nat)
                     [IV.str s, IV.int IntKind.u64 (0 : Int), IV.int IntKind.i64 (0 : Int),
                       IV.int IntKind.u64
                         (IntKind.u64.wrap
                           (IntKind.u64.wrap
                               (IntKind.u64.wrap ((10 : Int) * sec) +
                                 IntKind.u64.wrap (↑(s.getD i.toNat (0 : UInt8)).toNat : Int)) -
                             (48 : Int))),
                       IV.int IntKind.i64 (IntKind.i64.wrap (i + (1 : Int))), IV.undef, IV.undef, IV.undef]
                     [])
             else none
           else
             some
               (Ex.exit (nat_lit 0),
                 Sx (17 : Nat)
                   [IV.str s, IV.int IntKind.u64 (0 : Int), IV.int IntKind.i64 (0 : Int), IV.int IntKind.u64 sec,
                     IV.int IntKind.i64 i, IV.undef, IV.undef, IV.undef]
                   [])
         else none
       else
         some
           (Ex.exit (nat_lit 0),
             Sx (17 : Nat)
               [IV.str s, IV.int IntKind.u64 (0 : Int), IV.int IntKind.i64 (0 : Int), IV.int IntKind.u64 sec,
                 IV.int IntKind.i64 i, IV.undef, IV.undef, IV.undef]
               [])
     else none
   else
     some
       (Ex.exit (nat_lit 0),
         Sx (17 : Nat)
           [IV.str s, IV.int IntKind.u64 (0 : Int), IV.int IntKind.i64 (0 : Int), IV.int IntKind.u64 sec,
             IV.int IntKind.i64 i, IV.undef, IV.undef, IV.undef]
           [])) := by kernel_rfl
theorem rq_r2 (s low : List UInt8) (sec i t k : Int) : Rd (tab [(19, printF)]) 17 2042 (Sx 17 (rqW s sec i t low k) []) =
  (bif decide (k ≥ (0 : Int)) then
     bif decide ((0 : Int) ≤ IntKind.u64.wrap k) then
       bif
           decide
             ((0 : Int) ≤
                 IntKind.u64.wrap
                   (t + IntKind.u64.wrap ((1 : Int) * (2 : Int) ^ min (IntKind.u64.wrap k).toNat (64 : Nat))) ∧
               IntKind.u64.wrap
                   (t + IntKind.u64.wrap ((1 : Int) * (2 : Int) ^ min (IntKind.u64.wrap k).toNat (64 : Nat))) <
                 (18446744073709551616 : Int)) then
         bif
             Op.bytesLess
                 (printL
                   (IntKind.u64.wrap
                       (t + IntKind.u64.wrap ((1 : Int) * (2 : Int) ^ min (IntKind.u64.wrap k).toNat (64 : Nat)))).toNat)
                 s ||
               printL
                   (IntKind.u64.wrap
                       (t + IntKind.u64.wrap ((1 : Int) * (2 : Int) ^ min (IntKind.u64.wrap k).toNat (64 : Nat)))).toNat ==
                 s then
           some
             (Ex.normal,
               Sx (17 : Nat)
                 [IV.str s, IV.int IntKind.u64 (0 : Int), IV.int IntKind.i64 (0 : Int), IV.int IntKind.u64 sec,
                   IV.int IntKind.i64 i,
                   IV.int IntKind.u64
                     (IntKind.u64.wrap
                       (t + IntKind.u64.wrap ((1 : Int) * (2 : Int) ^ min (IntKind.u64.wrap k).toNat (64 : Nat)))),
                   IV.str low, IV.int IntKind.i64 (IntKind.i64.wrap (k - (1 : Int)))]
                 [])
         else
           some
             (Ex.normal,
               Sx (17 : Nat)
                 [IV.str s, IV.int IntKind.u64 (0 : Int), IV.int IntKind.i64 (0 : Int), IV.int IntKind.u64 sec,
                   IV.int IntKind.i64 i, IV.int IntKind.u64 t, IV.str low,
                   IV.int IntKind.i64 (IntKind.i64.wrap (k - (1 : Int)))]
                 [])
       else none
     else none
   else
     some
       (Ex.exit (nat_lit 2),
         Sx (17 : Nat)
           [IV.str s, IV.int IntKind.u64 (0 : Int), IV.int IntKind.i64 (0 : Int), IV.int IntKind.u64 sec,
             IV.int IntKind.i64 i, IV.int IntKind.u64 t, IV.str low, IV.int IntKind.i64 k]
           [])) := by kernel_rfl
theorem rq_call0 (s : List UInt8) (sec i t : Int) : callK Tryd.prog hint (tab [(19, printF)]) (ltab [(17, 28, loopF Tryd.prog hint 17 0 (oneF (rqV s 0 0) [] (.exit 0) (rqV s sec i) [])), (17, 2042, noL)]) 30 17 [.str s] [] (fun v T => some (v, T)) =
  (bif sameS (rqV s 0 0) [] then
     bif bif decide (sec > (4294967295 : Int)) then true else decide ((↑s.length : Int) > (21 : Int)) then
       some (IV.tup [IV.int IntKind.u64 (0 : Int), IV.int IntKind.i64 (40 : Int)], [])
     else
       bif
           decide
             ((0 : Int) ≤ IntKind.u64.wrap (sec * (4294967296 : Int)) ∧
               IntKind.u64.wrap (sec * (4294967296 : Int)) < (18446744073709551616 : Int)) then
         bif (↑(printL (IntKind.u64.wrap (sec * (4294967296 : Int))).toNat).length : Int) != (↑s.length : Int) then
           some (IV.tup [IV.int IntKind.u64 (0 : Int), IV.int IntKind.i64 (40 : Int)], [])
         else none
       else none
   else none) := by kernel_rfl
theorem rq_call (s : List UInt8) (sec i t : Int) : callK Tryd.prog hint (tab [(19, printF)]) (ltab [(17, 28, loopF Tryd.prog hint 17 0 (oneF (rqV s 0 0) [] (.exit 0) (rqV s sec i) [])), (17, 2042, loopF Tryd.prog hint 17 0 (oneF (rqW s sec i (IntKind.u64.wrap (sec * (4294967296 : Int))) (printL (IntKind.u64.wrap (sec * (4294967296 : Int))).toNat) 31) [] (.exit 2) (rqW s sec i t (printL (IntKind.u64.wrap (sec * (4294967296 : Int))).toNat) (-1)) []))]) 30 17 [.str s] [] (fun v T => some (v, T)) =
  (bif sameS (rqV s 0 0) [] then
     bif bif decide (sec > (4294967295 : Int)) then true else decide ((↑s.length : Int) > (21 : Int)) then
       some (IV.tup [IV.int IntKind.u64 (0 : Int), IV.int IntKind.i64 (40 : Int)], [])
     else
       bif
           decide
             ((0 : Int) ≤ IntKind.u64.wrap (sec * (4294967296 : Int)) ∧
               IntKind.u64.wrap (sec * (4294967296 : Int)) < (18446744073709551616 : Int)) then
         bif (↑(printL (IntKind.u64.wrap (sec * (4294967296 : Int))).toNat).length : Int) != (↑s.length : Int) then
           some (IV.tup [IV.int IntKind.u64 (0 : Int), IV.int IntKind.i64 (40 : Int)], [])
         else
           bif sameS (rqW s sec i (IntKind.u64.wrap (sec * (4294967296 : Int))) (printL (IntKind.u64.wrap (sec * (4294967296 : Int))).toNat) 31) [] then
             bif decide ((0 : Int) ≤ t ∧ t < (18446744073709551616 : Int)) then
               bif !printL t.toNat == s then
                 some (IV.tup [IV.int IntKind.u64 (0 : Int), IV.int IntKind.i64 (40 : Int)], [])
               else some (IV.tup [IV.int IntKind.u64 t, IV.int IntKind.i64 (0 : Int)], [])
             else none
           else none
       else none
   else none) := by kernel_rfl
end Go.Proofs.YthnleapnhkkeoaaDoor
