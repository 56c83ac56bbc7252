/- What Parse answers, by what its loop comes to. It bears no condition. -/
import Derived.Test.YthnleapnhkkeoaaDoorSpG
-- BYTES bytsH
namespace Go.Proofs.YthnleapnhkkeoaaDoor
open Go Go.Im
set_option linter.unusedVariables false
set_option linter.unusedSimpArgs false
variable (sp : FuncId → Option SpecF)

theorem ps_all (s : List UInt8) (sec n : Int) (c : Nat → Int) {a : Nat} (h1 : 1 ≤ a) (h2 : a ≤ 10) (hl : s.length = a + 11) {i : Nat} (hi : i < a + 11) :
    Rd sp 16 506 (paS s 0 0 (a : Nat) sec n (s.length : Nat) (i : Nat) (tenB c)) = pstep s a i sec n c := by
  have : a = 1 ∨ a = 2 ∨ a = 3 ∨ a = 4 ∨ a = 5 ∨ a = 6 ∨ a = 7 ∨ a = 8 ∨ a = 9 ∨ a = 10 := by omega
  rcases this with rfl | rfl | rfl | rfl | rfl | rfl | rfl | rfl | rfl | rfl
  · exact ps_1 sp s sec n c hl i hi
  · exact ps_2 sp s sec n c hl i hi
  · exact ps_3 sp s sec n c hl i hi
  · exact ps_4 sp s sec n c hl i hi
  · exact ps_5 sp s sec n c hl i hi
  · exact ps_6 sp s sec n c hl i hi
  · exact ps_7 sp s sec n c hl i hi
  · exact ps_8 sp s sec n c hl i hi
  · exact ps_9 sp s sec n c hl i hi
  · exact ps_10 sp s sec n c hl i hi
/-- The loop's contract, in what it comes to. -/
def paG (okc badc : List UInt8 → Int → Int → Bool) (se nu sb nb ib : List UInt8 → Int) (ce cb : List UInt8 → Nat → Int) : LiveF := fun vs bx => match vs, bx with
  | [.str s, .int .u64 0, .int .i64 0, .int .i64 a, .int .u64 0, .int .u64 0, .ptr 0 0, .int .i64 len, .int .i64 0], [.var false [.int .u8 0, .int .u8 0, .int .u8 0, .int .u8 0, .int .u8 0, .int .u8 0, .int .u8 0, .int .u8 0, .int .u8 0, .int .u8 0]] =>
    [(badc s a len, .ret, [.str s, .int .u64 0, .int .i64 40, .int .i64 a, .int .u64 (sb s), .int .u64 (nb s), .ptr 0 0, .int .i64 len, .int .i64 (ib s)], tenB (cb s)),
     (okc s a len, .exit 0, [.str s, .int .u64 0, .int .i64 0, .int .i64 a, .int .u64 (se s), .int .u64 (nu s), .ptr 0 0, .int .i64 len, .int .i64 len], tenB (ce s))]
  | _, _ => []
noncomputable abbrev paLs (okc badc : List UInt8 → Int → Int → Bool) (se nu sb nb ib : List UInt8 → Int) (ce cb : List UInt8 → Nat → Int) : FuncId → Nat → Option LoopF := ltab [(16, 506, loopF Tryd.prog hint 16 0 (paG okc badc se nu sb nb ib ce cb))]
def divP (q r : Int → Int → Int) (c : Int → Int → Bool) : SpecF := fun xs T => match xs, T with
  | [.int .u64 h, .int .u64 l, .int .u64 10000000000], [] => [(c h l, .tup [.int .u64 (q h l), .int .u64 (r h l)], [])]
  | _, _ => []
abbrev tabQ (d : Nat → Int → Int) (q r : Int → Int → Int) (c : Int → Int → Bool) : FuncId → Option SpecF := tab [(39, tenF d), (38, divP q r c)]
theorem pa_call (s : List UInt8) (d : Nat → Int → Int) (q r : Int → Int → Int) (c : Int → Int → Bool) (okc badc : List UInt8 → Int → Int → Bool) (se nu sb nb ib : List UInt8 → Int) (ce cb : List UInt8 → Nat → Int) : callK Tryd.prog hint (tabQ d q r c) (paLs okc badc se nu sb nb ib ce cb) 30 16 [.str s] [] (fun v T => some (v, T)) =
  (bif
       (bif decide (IntKind.i64.wrap ((↑s.length : Int) - (11 : Int)) < (1 : Int)) then true
         else decide (IntKind.i64.wrap ((↑s.length : Int) - (11 : Int)) > (10 : Int))) ==
         false then
     bif
         decide
           ((0 : Int) ≤ IntKind.i64.wrap ((↑s.length : Int) - (11 : Int)) ∧
             IntKind.i64.wrap ((↑s.length : Int) - (11 : Int)) < (↑s.length : Int)) then
       bif
           (bif false then true
             else
               (↑(s.getD (IntKind.i64.wrap ((↑s.length : Int) - (11 : Int))).toNat (0 : UInt8)).toNat : Int) !=
                 (46 : Int)) ==
             false then
         bif decide ((0 : Int) ≤ (0 : Int) ∧ (0 : Int) < (↑s.length : Int)) then
           bif
               bif false then true
               else
                 bif (↑(s.getD (0 : Nat) (0 : UInt8)).toNat : Int) == (48 : Int) then
                   decide (IntKind.i64.wrap ((↑s.length : Int) - (11 : Int)) > (1 : Int))
                 else false then
             some (IV.tup [IV.int IntKind.u64 (0 : Int), IV.int IntKind.i64 (40 : Int)], [])
           else
             bif badc s (IntKind.i64.wrap ((↑s.length : Int) - (11 : Int))) (↑s.length : Int) then
               some (IV.tup [IV.int IntKind.u64 (0 : Int), IV.int IntKind.i64 (40 : Int)], [])
             else
               bif okc s (IntKind.i64.wrap ((↑s.length : Int) - (11 : Int))) (↑s.length : Int) then
                 bif c ((nu s).fdiv ((2 : Int) ^ (32 : Nat))) (IntKind.u64.wrap (nu s * (2 : Int) ^ (32 : Nat))) then
                   bif
                       decide
                         (r ((nu s).fdiv ((2 : Int) ^ (32 : Nat))) (IntKind.u64.wrap (nu s * (2 : Int) ^ (32 : Nat))) >
                           (0 : Int)) then
                     bif
                         (bif decide (se s > (4294967295 : Int)) then true
                           else
                             decide
                               (IntKind.u64.wrap
                                   (q ((nu s).fdiv ((2 : Int) ^ (32 : Nat)))
                                       (IntKind.u64.wrap (nu s * (2 : Int) ^ (32 : Nat))) +
                                     (1 : Int)) >
                                 (4294967295 : Int))) ==
                           false then
                       bif
                           decide
                             ((0 : Int) ≤
                                 IntKind.u32.wrap
                                   (IntKind.u64.wrap
                                     (q ((nu s).fdiv ((2 : Int) ^ (32 : Nat)))
                                         (IntKind.u64.wrap (nu s * (2 : Int) ^ (32 : Nat))) +
                                       (1 : Int))) ∧
                               IntKind.u32.wrap
                                   (IntKind.u64.wrap
                                     (q ((nu s).fdiv ((2 : Int) ^ (32 : Nat)))
                                         (IntKind.u64.wrap (nu s * (2 : Int) ^ (32 : Nat))) +
                                       (1 : Int))) <
                                 (4294967296 : Int)) then
                         bif
                             bif false then true
                             else
                               !(d (9 : Nat)
                                       (IntKind.u32.wrap
                                         (IntKind.u64.wrap
                                           (q ((nu s).fdiv ((2 : Int) ^ (32 : Nat)))
                                               (IntKind.u64.wrap (nu s * (2 : Int) ^ (32 : Nat))) +
                                             (1 : Int)))) ==
                                     ce s (0 : Nat) &&
                                   (d (8 : Nat)
                                         (IntKind.u32.wrap
                                           (IntKind.u64.wrap
                                             (q ((nu s).fdiv ((2 : Int) ^ (32 : Nat)))
                                                 (IntKind.u64.wrap (nu s * (2 : Int) ^ (32 : Nat))) +
                                               (1 : Int)))) ==
                                       ce s (1 : Nat) &&
                                     (d (7 : Nat)
                                           (IntKind.u32.wrap
                                             (IntKind.u64.wrap
                                               (q ((nu s).fdiv ((2 : Int) ^ (32 : Nat)))
                                                   (IntKind.u64.wrap (nu s * (2 : Int) ^ (32 : Nat))) +
                                                 (1 : Int)))) ==
                                         ce s (2 : Nat) &&
                                       (d (6 : Nat)
                                             (IntKind.u32.wrap
                                               (IntKind.u64.wrap
                                                 (q ((nu s).fdiv ((2 : Int) ^ (32 : Nat)))
                                                     (IntKind.u64.wrap (nu s * (2 : Int) ^ (32 : Nat))) +
                                                   (1 : Int)))) ==
                                           ce s (3 : Nat) &&
                                         (d (5 : Nat)
                                               (IntKind.u32.wrap
                                                 (IntKind.u64.wrap
                                                   (q ((nu s).fdiv ((2 : Int) ^ (32 : Nat)))
                                                       (IntKind.u64.wrap (nu s * (2 : Int) ^ (32 : Nat))) +
                                                     (1 : Int)))) ==
                                             ce s (4 : Nat) &&
                                           (d (4 : Nat)
                                                 (IntKind.u32.wrap
                                                   (IntKind.u64.wrap
                                                     (q ((nu s).fdiv ((2 : Int) ^ (32 : Nat)))
                                                         (IntKind.u64.wrap (nu s * (2 : Int) ^ (32 : Nat))) +
                                                       (1 : Int)))) ==
                                               ce s (5 : Nat) &&
                                             (d (3 : Nat)
                                                   (IntKind.u32.wrap
                                                     (IntKind.u64.wrap
                                                       (q ((nu s).fdiv ((2 : Int) ^ (32 : Nat)))
                                                           (IntKind.u64.wrap (nu s * (2 : Int) ^ (32 : Nat))) +
                                                         (1 : Int)))) ==
                                                 ce s (6 : Nat) &&
                                               (d (2 : Nat)
                                                     (IntKind.u32.wrap
                                                       (IntKind.u64.wrap
                                                         (q ((nu s).fdiv ((2 : Int) ^ (32 : Nat)))
                                                             (IntKind.u64.wrap (nu s * (2 : Int) ^ (32 : Nat))) +
                                                           (1 : Int)))) ==
                                                   ce s (7 : Nat) &&
                                                 (d (1 : Nat)
                                                       (IntKind.u32.wrap
                                                         (IntKind.u64.wrap
                                                           (q ((nu s).fdiv ((2 : Int) ^ (32 : Nat)))
                                                               (IntKind.u64.wrap (nu s * (2 : Int) ^ (32 : Nat))) +
                                                             (1 : Int)))) ==
                                                     ce s (8 : Nat) &&
                                                   (d (0 : Nat)
                                                         (IntKind.u32.wrap
                                                           (IntKind.u64.wrap
                                                             (q ((nu s).fdiv ((2 : Int) ^ (32 : Nat)))
                                                                 (IntKind.u64.wrap (nu s * (2 : Int) ^ (32 : Nat))) +
                                                               (1 : Int)))) ==
                                                       ce s (9 : Nat) &&
                                                     true)))))))))) then
                           some (IV.tup [IV.int IntKind.u64 (0 : Int), IV.int IntKind.i64 (40 : Int)], [])
                         else
                           some
                             (IV.tup
                                 [IV.int IntKind.u64
                                     (ibits BinOp.or IntKind.u64
                                       (IntKind.u64.wrap
                                         (IntKind.u64.wrap (IntKind.u32.wrap (se s)) * (2 : Int) ^ (32 : Nat)))
                                       (IntKind.u64.wrap
                                         (IntKind.u32.wrap
                                           (IntKind.u64.wrap
                                             (q ((nu s).fdiv ((2 : Int) ^ (32 : Nat)))
                                                 (IntKind.u64.wrap (nu s * (2 : Int) ^ (32 : Nat))) +
                                               (1 : Int)))))),
                                   IV.int IntKind.i64 (0 : Int)],
                               [])
                       else none
                     else some (IV.tup [IV.int IntKind.u64 (0 : Int), IV.int IntKind.i64 (40 : Int)], [])
                   else
                     bif
                         (bif decide (se s > (4294967295 : Int)) then true
                           else
                             decide
                               (q ((nu s).fdiv ((2 : Int) ^ (32 : Nat)))
                                   (IntKind.u64.wrap (nu s * (2 : Int) ^ (32 : Nat))) >
                                 (4294967295 : Int))) ==
                           false then
                       bif
                           decide
                             ((0 : Int) ≤
                                 IntKind.u32.wrap
                                   (q ((nu s).fdiv ((2 : Int) ^ (32 : Nat)))
                                     (IntKind.u64.wrap (nu s * (2 : Int) ^ (32 : Nat)))) ∧
                               IntKind.u32.wrap
                                   (q ((nu s).fdiv ((2 : Int) ^ (32 : Nat)))
                                     (IntKind.u64.wrap (nu s * (2 : Int) ^ (32 : Nat)))) <
                                 (4294967296 : Int)) then
                         bif
                             bif false then true
                             else
                               !(d (9 : Nat)
                                       (IntKind.u32.wrap
                                         (q ((nu s).fdiv ((2 : Int) ^ (32 : Nat)))
                                           (IntKind.u64.wrap (nu s * (2 : Int) ^ (32 : Nat))))) ==
                                     ce s (0 : Nat) &&
                                   (d (8 : Nat)
                                         (IntKind.u32.wrap
                                           (q ((nu s).fdiv ((2 : Int) ^ (32 : Nat)))
                                             (IntKind.u64.wrap (nu s * (2 : Int) ^ (32 : Nat))))) ==
                                       ce s (1 : Nat) &&
                                     (d (7 : Nat)
                                           (IntKind.u32.wrap
                                             (q ((nu s).fdiv ((2 : Int) ^ (32 : Nat)))
                                               (IntKind.u64.wrap (nu s * (2 : Int) ^ (32 : Nat))))) ==
                                         ce s (2 : Nat) &&
                                       (d (6 : Nat)
                                             (IntKind.u32.wrap
                                               (q ((nu s).fdiv ((2 : Int) ^ (32 : Nat)))
                                                 (IntKind.u64.wrap (nu s * (2 : Int) ^ (32 : Nat))))) ==
                                           ce s (3 : Nat) &&
                                         (d (5 : Nat)
                                               (IntKind.u32.wrap
                                                 (q ((nu s).fdiv ((2 : Int) ^ (32 : Nat)))
                                                   (IntKind.u64.wrap (nu s * (2 : Int) ^ (32 : Nat))))) ==
                                             ce s (4 : Nat) &&
                                           (d (4 : Nat)
                                                 (IntKind.u32.wrap
                                                   (q ((nu s).fdiv ((2 : Int) ^ (32 : Nat)))
                                                     (IntKind.u64.wrap (nu s * (2 : Int) ^ (32 : Nat))))) ==
                                               ce s (5 : Nat) &&
                                             (d (3 : Nat)
                                                   (IntKind.u32.wrap
                                                     (q ((nu s).fdiv ((2 : Int) ^ (32 : Nat)))
                                                       (IntKind.u64.wrap (nu s * (2 : Int) ^ (32 : Nat))))) ==
                                                 ce s (6 : Nat) &&
                                               (d (2 : Nat)
                                                     (IntKind.u32.wrap
                                                       (q ((nu s).fdiv ((2 : Int) ^ (32 : Nat)))
                                                         (IntKind.u64.wrap (nu s * (2 : Int) ^ (32 : Nat))))) ==
                                                   ce s (7 : Nat) &&
                                                 (d (1 : Nat)
                                                       (IntKind.u32.wrap
                                                         (q ((nu s).fdiv ((2 : Int) ^ (32 : Nat)))
                                                           (IntKind.u64.wrap (nu s * (2 : Int) ^ (32 : Nat))))) ==
                                                     ce s (8 : Nat) &&
                                                   (d (0 : Nat)
                                                         (IntKind.u32.wrap
                                                           (q ((nu s).fdiv ((2 : Int) ^ (32 : Nat)))
                                                             (IntKind.u64.wrap (nu s * (2 : Int) ^ (32 : Nat))))) ==
                                                       ce s (9 : Nat) &&
                                                     true)))))))))) then
                           some (IV.tup [IV.int IntKind.u64 (0 : Int), IV.int IntKind.i64 (40 : Int)], [])
                         else
                           some
                             (IV.tup
                                 [IV.int IntKind.u64
                                     (ibits BinOp.or IntKind.u64
                                       (IntKind.u64.wrap
                                         (IntKind.u64.wrap (IntKind.u32.wrap (se s)) * (2 : Int) ^ (32 : Nat)))
                                       (IntKind.u64.wrap
                                         (IntKind.u32.wrap
                                           (q ((nu s).fdiv ((2 : Int) ^ (32 : Nat)))
                                             (IntKind.u64.wrap (nu s * (2 : Int) ^ (32 : Nat))))))),
                                   IV.int IntKind.i64 (0 : Int)],
                               [])
                       else none
                     else some (IV.tup [IV.int IntKind.u64 (0 : Int), IV.int IntKind.i64 (40 : Int)], [])
                 else none
               else none
         else none
       else some (IV.tup [IV.int IntKind.u64 (0 : Int), IV.int IntKind.i64 (40 : Int)], [])
     else none
   else some (IV.tup [IV.int IntKind.u64 (0 : Int), IV.int IntKind.i64 (40 : Int)], [])) := by kernel_rfl
end Go.Proofs.YthnleapnhkkeoaaDoor
