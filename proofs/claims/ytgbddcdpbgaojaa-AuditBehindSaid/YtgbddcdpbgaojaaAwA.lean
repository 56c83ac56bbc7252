/- Numbers are read: what the given program does. It bears no condition. -/
import Derived.Test.YtgbddcdpbgaojaaAuBase
namespace Go.Proofs.Ytgbddcdpbgaojaa
open Go Go.Im
set_option linter.unusedVariables false
set_option linter.unusedSimpArgs false

def intP (q : Int → Bool) (p : Int → Int) : SpecF := fun xs T => match xs, T with
  | [.int .i64 n], [] => [(q n, .int .i64 (p n), [])]
  | _, _ => []
def getP (c : List IV → Bool) (g : List IV → Int) : SpecF := fun xs T => match xs, T with
  | [.fsl nl cl 1 xs], [] => [(c xs, .int .u64 (g xs), [])]
  | _, _ => []
def getL (c : Int → List IV → Int → Int → Bool) (g : List IV → Int) : LiveF := fun vs bx => match vs, bx with
  | [.int .u64 n, .fsl nl cl 1 xs, .int .i64 len, .int .i64 i], [] => [(c n xs len i, .exit 0, [.int .u64 (g xs), .fsl nl cl 1 xs, .int .i64 len, .int .i64 len], [])]
  | _, _ => []
def cloneP (c : Nat → List IV → Bool) : SpecF := fun xs T => match xs, T with
  | [.fsl nl cl z l], [] => [(c z l, .fsl none false 1 l, [])]
  | _, _ => []
def cloneC (z : Nat) (l : List IV) : Bool := decide ((z = 1 ∨ l.length = 0) ∧ l.length ≤ 100000)
theorem pad_all (n : Int) : C (tab []) 52 [.int .i64 n] =
  (some
     (IV.int IntKind.i64
         (IntKind.i64.wrap (IntKind.i64.wrap ((IntKind.i64.wrap (n + (3 : Int))).tdiv (4 : Int)) * (4 : Int))),
       [])) := by kernel_rfl
theorem get_in (n len i : Int) (nl : Option Bool) (cl : Bool) (z : Nat) (xs : List IV) : Rd (tab []) 0 42 58 (Sx 42 [.int .u64 n, .fsl nl cl z xs, .int .i64 len, .int .i64 i] []) =
  (bif decide (i < len) then
     bif decide (z = (1 : Nat) ∧ (0 : Int) ≤ i ∧ i < (↑xs.length : Int)) then
       bif isOf (LT.i IntKind.u8) (nthD (nthD xs i.toNat).cells (0 : Nat)) then
         some
           (Ex.normal,
             Sx (42 : Nat)
               [IV.int IntKind.u64
                   (ibits BinOp.or IntKind.u64 (IntKind.u64.wrap (n * (2 : Int) ^ (8 : Nat)))
                     (IntKind.u64.wrap (intOf (nthD (nthD xs i.toNat).cells (0 : Nat))))),
                 IV.fsl nl cl z xs, IV.int IntKind.i64 len, IV.int IntKind.i64 (IntKind.i64.wrap (i + (1 : Int)))]
               [])
       else none
     else none
   else
     some
       (Ex.exit (nat_lit 0),
         Sx (42 : Nat) [IV.int IntKind.u64 n, IV.fsl nl cl z xs, IV.int IntKind.i64 len, IV.int IntKind.i64 i] [])) := by kernel_rfl
theorem get_all (nl : Option Bool) (cl : Bool) (z : Nat) (xs : List IV) (c : Int → List IV → Int → Int → Bool) (g : List IV → Int) : Cb (tab []) (ltab [(42, 58, LF 42 0 (getL c g))]) 42 [.fsl nl cl 1 xs] [] =
  (bif c (0 : Int) xs (↑xs.length : Int) (0 : Int) then some (IV.int IntKind.u64 (g xs), []) else none) := by kernel_rfl
theorem cl1 (cl : Bool) (z : Nat) : C (tab []) 45 [.fsl (some true) cl z []] =
  (some (IV.fsl (some true) true (nat_lit 0) [], [])) := by kernel_rfl
theorem cl2 (cl : Bool) (z : Nat) (l : List IV) : C (tab []) 45 [.fsl (some false) cl z l] =
  (bif decide (z = (1 : Nat) ∨ l.length = (0 : Nat)) then
     bif decide (((0 : Nat) + l.length) * (1 : Nat) ≤ roomB ∧ (0 : Nat) + l.length ≤ maxLen) then
       some (IV.osl (nat_lit 0) (nat_lit 0), [Blk.row (nat_lit 0) false (nat_lit 1) l])
     else none
   else none) := by kernel_rfl
end Go.Proofs.Ytgbddcdpbgaojaa
