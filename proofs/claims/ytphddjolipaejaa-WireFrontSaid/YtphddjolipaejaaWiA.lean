/- Numbers are put in bytes: what the given program does. It bears no condition. -/
import Derived.Test.YtphddjolipaejaaWiBase
-- BYTES bytsA
namespace Go.Proofs.Ytphddjolipaejaa
open Go Go.Im
set_option linter.unusedVariables false
set_option linter.unusedSimpArgs false

/-! ### Shapes of contracts -/
def intP (q : Int → Bool) (p : Int → Int) : SpecF := fun xs T => match xs, T with
  | [.int .i64 n], [] => [(q n, .int .i64 (p n), [])]
  | _, _ => []
def putP (c : Int → List IV → List IV → Bool) (g : Int → List IV → List IV → List IV) : SpecF := fun xs T => match xs, T with
  | [.osl 0 0, .int .i64 n, .fsl nl cl 1 xs], [.row 0 false 1 l] => [(c n xs l, .osl 0 1, [.row 1 false 1 (g n xs l)])]
  | _, _ => []
def byP (c : Int → Int → Bool) (g : Int → Int → List IV) : SpecF := fun xs T => match xs, T with
  | [.int .u64 x, .int .i64 n], [] => [(c x n, .osl 0 0, [.row 0 false 1 (g x n)])]
  | _, _ => []
def dataP (c : Nat → List IV → List IV → Bool) (g : List IV → List IV → List IV) : SpecF := fun xs T => match xs, T with
  | [.osl 0 0, .fsl nl cl z xs], [.row 0 false 1 l] => [(c z xs l, .osl 0 1, [.row 1 false 1 (g xs l)])]
  | _, _ => []
def rdataP (c : Nat → List IV → Bool) (g : List IV → List IV) : SpecF := fun xs T => match xs, T with
  | [.fsl nl cl z xs], [] => [(c z xs, .osl 0 0, [.row 0 false 1 (g xs)])]
  | _, _ => []
def getP (c : List IV → Bool) (g : List IV → Int) : SpecF := fun xs T => match xs, T with
  | [.fsl nl cl 1 xs], [] => [(c xs, .int .u64 (g xs), [])]
  | _, _ => []
def putL (c : Int → Int → List IV → Bool) (g : Int → Int → List IV → List IV) : LiveF := fun vs bx => match vs, bx with
  | [.osl 0 1, .int .i64 n, .int .u64 x, .int .i64 i, .fsl nl cl z xs, .int .i64 len, .int .i64 j], [.row 1 false 1 l] => [(c x i l, .exit 2, [.osl 0 1, .int .i64 n, .int .u64 x, .int .i64 (-1), .fsl nl cl z xs, .int .i64 len, .int .i64 j], [.row 1 false 1 (g x i l)])]
  | _, _ => []
def byL (c : Int → Int → List IV → Bool) (g : Int → Int → List IV → List IV) : LiveF := fun vs bx => match vs, bx with
  | [.int .u64 x, .osl 0 0, .int .i64 i], [.row 0 false 1 l] => [(c x i l, .exit 0, [.int .u64 x, .osl 0 0, .int .i64 (-1)], [.row 0 false 1 (g x i l)])]
  | _, _ => []
def fillL (c : Int → Int → Bool) (g : Int → Int) : LiveF := fun vs bx => match vs, bx with
  | [.int .i64 n, .int .i64 k], [] => [(c n k, .exit 0, [.int .i64 n, .int .i64 (g n)], [])]
  | _, _ => []
def datL (c2 : List IV → List IV → Int → Bool) (g2 : List IV → List IV → List IV) (t : List IV → Int) : LiveF := fun vs bx => match vs, bx with
  | [.fsl nl cl z xs, .osl 0 0, .int .i64 i], [.row 0 false 1 l] => [(c2 xs l i, .exit 0, [.fsl nl cl z xs, .osl 0 0, .int .i64 (t xs)], [.row 0 false 1 (g2 xs l)])]
  | _, _ => []
def getL (c : Int → List IV → Int → Int → Bool) (g : List IV → Int) : LiveF := fun vs bx => match vs, bx with
  | [.int .u64 n, .fsl nl cl 1 xs, .int .i64 len, .int .i64 i], [] => [(c n xs len i, .exit 0, [.int .u64 (g xs), .fsl nl cl 1 xs, .int .i64 len, .int .i64 len], [])]
  | _, _ => []
noncomputable abbrev LF (f p : Nat) (G : LiveF) : LoopF := loopF Try.prog hint f p G

/-! ### put -/
theorem put_in (n x i len j : Int) (nl : Option Bool) (cl : Bool) (z : Nat) (xs l : List IV) : Rd (tab []) 1 18 6758 (Sx 18 [.osl 0 1, .int .i64 n, .int .u64 x, .int .i64 i, .fsl nl cl z xs, .int .i64 len, .int .i64 j] [.row 1 false 1 l]) =
  (bif decide (i ≥ (0 : Int)) then
     bif decide ((0 : Int) ≤ IntKind.i64.wrap ((8 : Int) * i)) then
       bif
           decide
             ((l.length +
                     [IV.int IntKind.u8
                           (IntKind.u8.wrap
                             (x.fdiv ((2 : Int) ^ min (IntKind.i64.wrap ((8 : Int) * i)).toNat (64 : Nat))))].length) *
                   (1 : Nat) ≤
                 roomB ∧
               l.length +
                   [IV.int IntKind.u8
                         (IntKind.u8.wrap
                           (x.fdiv ((2 : Int) ^ min (IntKind.i64.wrap ((8 : Int) * i)).toNat (64 : Nat))))].length ≤
                 maxLen) then
         some
           (Ex.normal,
             Sx (18 : Nat)
               [IV.osl (nat_lit 0) (nat_lit 1), IV.int IntKind.i64 n, IV.int IntKind.u64 x,
                 IV.int IntKind.i64 (IntKind.i64.wrap (i - (1 : Int))), IV.fsl nl cl z xs, IV.int IntKind.i64 len,
                 IV.int IntKind.i64 j]
               [Blk.row (nat_lit 1) false (nat_lit 1)
                   (l ++
                     [IV.int IntKind.u8
                         (IntKind.u8.wrap
                           (x.fdiv ((2 : Int) ^ min (IntKind.i64.wrap ((8 : Int) * i)).toNat (64 : Nat))))])])
       else none
     else none
   else
     some
       (Ex.exit (nat_lit 2),
         Sx (18 : Nat)
           [IV.osl (nat_lit 0) (nat_lit 1), IV.int IntKind.i64 n, IV.int IntKind.u64 x, IV.int IntKind.i64 i,
             IV.fsl nl cl z xs, IV.int IntKind.i64 len, IV.int IntKind.i64 j]
           [Blk.row (nat_lit 1) false (nat_lit 1) l])) := by kernel_rfl
theorem put1 (n a : Int) (nl : Option Bool) (cl : Bool) (l : List IV) (c : Int → Int → List IV → Bool) (g : Int → Int → List IV → List IV) : Cb (tab []) (ltab [(18, 6758, LF 18 1 (putL c g))]) 18 [.osl 0 0, .int .i64 n, .fsl nl cl 1 [.int .u64 a]] [.row 0 false 1 l] =
  (bif c (intOf (IV.int IntKind.u64 a)) (IntKind.i64.wrap (n - (1 : Int))) l then
     some
       (IV.osl (nat_lit 0) (nat_lit 1),
         [Blk.row (nat_lit 1) false (nat_lit 1) (g (intOf (IV.int IntKind.u64 a)) (IntKind.i64.wrap (n - (1 : Int))) l)])
   else none) := by kernel_rfl
theorem put2 (n a b : Int) (nl : Option Bool) (cl : Bool) (l : List IV) (c : Int → Int → List IV → Bool) (g : Int → Int → List IV → List IV) : Cb (tab []) (ltab [(18, 6758, LF 18 1 (putL c g))]) 18 [.osl 0 0, .int .i64 n, .fsl nl cl 1 [.int .u64 a, .int .u64 b]] [.row 0 false 1 l] =
  (bif c (intOf (IV.int IntKind.u64 a)) (IntKind.i64.wrap (n - (1 : Int))) l then
     bif
         c (intOf (IV.int IntKind.u64 b)) (IntKind.i64.wrap (n - (1 : Int)))
           (g (intOf (IV.int IntKind.u64 a)) (IntKind.i64.wrap (n - (1 : Int))) l) then
       some
         (IV.osl (nat_lit 0) (nat_lit 1),
           [Blk.row (nat_lit 1) false (nat_lit 1)
               (g (intOf (IV.int IntKind.u64 b)) (IntKind.i64.wrap (n - (1 : Int)))
                 (g (intOf (IV.int IntKind.u64 a)) (IntKind.i64.wrap (n - (1 : Int))) l))])
     else none
   else none) := by kernel_rfl
theorem put3 (n a b d : Int) (nl : Option Bool) (cl : Bool) (l : List IV) (c : Int → Int → List IV → Bool) (g : Int → Int → List IV → List IV) : Cb (tab []) (ltab [(18, 6758, LF 18 1 (putL c g))]) 18 [.osl 0 0, .int .i64 n, .fsl nl cl 1 [.int .u64 a, .int .u64 b, .int .u64 d]] [.row 0 false 1 l] =
  (bif c (intOf (IV.int IntKind.u64 a)) (IntKind.i64.wrap (n - (1 : Int))) l then
     bif
         c (intOf (IV.int IntKind.u64 b)) (IntKind.i64.wrap (n - (1 : Int)))
           (g (intOf (IV.int IntKind.u64 a)) (IntKind.i64.wrap (n - (1 : Int))) l) then
       bif
           c (intOf (IV.int IntKind.u64 d)) (IntKind.i64.wrap (n - (1 : Int)))
             (g (intOf (IV.int IntKind.u64 b)) (IntKind.i64.wrap (n - (1 : Int)))
               (g (intOf (IV.int IntKind.u64 a)) (IntKind.i64.wrap (n - (1 : Int))) l)) then
         some
           (IV.osl (nat_lit 0) (nat_lit 1),
             [Blk.row (nat_lit 1) false (nat_lit 1)
                 (g (intOf (IV.int IntKind.u64 d)) (IntKind.i64.wrap (n - (1 : Int)))
                   (g (intOf (IV.int IntKind.u64 b)) (IntKind.i64.wrap (n - (1 : Int)))
                     (g (intOf (IV.int IntKind.u64 a)) (IntKind.i64.wrap (n - (1 : Int))) l)))])
       else none
     else none
   else none) := by kernel_rfl
theorem put4 (n a b d e : Int) (nl : Option Bool) (cl : Bool) (l : List IV) (c : Int → Int → List IV → Bool) (g : Int → Int → List IV → List IV) : Cb (tab []) (ltab [(18, 6758, LF 18 1 (putL c g))]) 18 [.osl 0 0, .int .i64 n, .fsl nl cl 1 [.int .u64 a, .int .u64 b, .int .u64 d, .int .u64 e]] [.row 0 false 1 l] =
  (bif c (intOf (IV.int IntKind.u64 a)) (IntKind.i64.wrap (n - (1 : Int))) l then
     bif
         c (intOf (IV.int IntKind.u64 b)) (IntKind.i64.wrap (n - (1 : Int)))
           (g (intOf (IV.int IntKind.u64 a)) (IntKind.i64.wrap (n - (1 : Int))) l) then
       bif
           c (intOf (IV.int IntKind.u64 d)) (IntKind.i64.wrap (n - (1 : Int)))
             (g (intOf (IV.int IntKind.u64 b)) (IntKind.i64.wrap (n - (1 : Int)))
               (g (intOf (IV.int IntKind.u64 a)) (IntKind.i64.wrap (n - (1 : Int))) l)) then
         bif
             c (intOf (IV.int IntKind.u64 e)) (IntKind.i64.wrap (n - (1 : Int)))
               (g (intOf (IV.int IntKind.u64 d)) (IntKind.i64.wrap (n - (1 : Int)))
                 (g (intOf (IV.int IntKind.u64 b)) (IntKind.i64.wrap (n - (1 : Int)))
                   (g (intOf (IV.int IntKind.u64 a)) (IntKind.i64.wrap (n - (1 : Int))) l))) then
           some
             (IV.osl (nat_lit 0) (nat_lit 1),
               [Blk.row (nat_lit 1) false (nat_lit 1)
                   (g (intOf (IV.int IntKind.u64 e)) (IntKind.i64.wrap (n - (1 : Int)))
                     (g (intOf (IV.int IntKind.u64 d)) (IntKind.i64.wrap (n - (1 : Int)))
                       (g (intOf (IV.int IntKind.u64 b)) (IntKind.i64.wrap (n - (1 : Int)))
                         (g (intOf (IV.int IntKind.u64 a)) (IntKind.i64.wrap (n - (1 : Int))) l))))])
         else none
       else none
     else none
   else none) := by kernel_rfl
theorem by_in (x i : Int) (l : List IV) : Rd (tab []) 0 22 58 (Sx 22 [.int .u64 x, .osl 0 0, .int .i64 i] [.row 0 false 1 l]) =
  (bif decide (i ≥ (0 : Int)) then
     bif decide ((0 : Int) ≤ IntKind.u64.wrap (IntKind.i64.wrap ((8 : Int) * i))) then
       bif
           decide
             ((l.length +
                     [IV.int IntKind.u8
                           (IntKind.u8.wrap
                             (x.fdiv
                               ((2 : Int) ^
                                 min (IntKind.u64.wrap (IntKind.i64.wrap ((8 : Int) * i))).toNat (64 : Nat))))].length) *
                   (1 : Nat) ≤
                 roomB ∧
               l.length +
                   [IV.int IntKind.u8
                         (IntKind.u8.wrap
                           (x.fdiv
                             ((2 : Int) ^
                               min (IntKind.u64.wrap (IntKind.i64.wrap ((8 : Int) * i))).toNat (64 : Nat))))].length ≤
                 maxLen) then
         some
           (Ex.normal,
             Sx (22 : Nat)
               [IV.int IntKind.u64 x, IV.osl (nat_lit 0) (nat_lit 0),
                 IV.int IntKind.i64 (IntKind.i64.wrap (i - (1 : Int)))]
               [Blk.row (nat_lit 0) false (nat_lit 1)
                   (l ++
                     [IV.int IntKind.u8
                         (IntKind.u8.wrap
                           (x.fdiv
                             ((2 : Int) ^ min (IntKind.u64.wrap (IntKind.i64.wrap ((8 : Int) * i))).toNat (64 : Nat))))])])
       else none
     else none
   else
     some
       (Ex.exit (nat_lit 0),
         Sx (22 : Nat) [IV.int IntKind.u64 x, IV.osl (nat_lit 0) (nat_lit 0), IV.int IntKind.i64 i]
           [Blk.row (nat_lit 0) false (nat_lit 1) l])) := by kernel_rfl
theorem by_all (x n : Int) (c : Int → Int → List IV → Bool) (g : Int → Int → List IV → List IV) : Cb (tab []) (ltab [(22, 58, LF 22 0 (byL c g))]) 22 [.int .u64 x, .int .i64 n] [] =
  (bif c x (IntKind.i64.wrap (n - (1 : Int))) [] then
     some
       (IV.osl (nat_lit 0) (nat_lit 0),
         [Blk.row (nat_lit 0) false (nat_lit 1) (g x (IntKind.i64.wrap (n - (1 : Int))) [])])
   else none) := by kernel_rfl
theorem fill_in (n k : Int) : Rd (tab []) 0 30 28 (Sx 30 [.int .i64 n, .int .i64 k] []) =
  (bif (IntKind.i64.wrap (n + k)).tmod (4 : Int) != (0 : Int) then
     some (Ex.normal, Sx (30 : Nat) [IV.int IntKind.i64 n, IV.int IntKind.i64 (IntKind.i64.wrap (k + (1 : Int)))] [])
   else some (Ex.exit (nat_lit 0), Sx (30 : Nat) [IV.int IntKind.i64 n, IV.int IntKind.i64 k] [])) := by kernel_rfl
theorem fill_all (n : Int) (c : Int → Int → Bool) (g : Int → Int) : Cb (tab []) (ltab [(30, 28, LF 30 0 (fillL c g))]) 30 [.int .i64 n] [] =
  (bif c n (0 : Int) then some (IV.int IntKind.i64 (g n), []) else none) := by kernel_rfl
theorem pad_all (n : Int) : C (tab []) 29 [.int .i64 n] =
  (some
     (IV.int IntKind.i64
         (IntKind.i64.wrap (IntKind.i64.wrap ((IntKind.i64.wrap (n + (3 : Int))).tdiv (4 : Int)) * (4 : Int))),
       [])) := by kernel_rfl
theorem bit_all (b : Bool) (n : Int) : C (tab []) 19 [.bool b, .int .u8 n] =
  (bif b then some (IV.int IntKind.u8 n, []) else some (IV.int IntKind.u8 (0 : Int), [])) := by kernel_rfl
theorem size_all (a d ts fs : Int) (b c : Bool) (n1 n2 : Option Bool) (c1 c2 : Bool) (z1 z2 : Nat) (l1 l2 : List IV) (p : Int → Int) (q : Int → Bool) : C (tab [(29, intP q p)]) 20 [.agg [.int .i64 a, .bool b, .bool c, .int .i64 d, .int .u32 ts, .int .u32 fs, .fsl n1 c1 z1 l1, .fsl n2 c2 z2 l2]] =
  (bif q (↑l1.length : Int) then
     bif q (↑l2.length : Int) then
       some
         (IV.int IntKind.i64
             (IntKind.i64.wrap (IntKind.i64.wrap ((24 : Int) + p (↑l1.length : Int)) + p (↑l2.length : Int))),
           [])
     else none
   else none) := by kernel_rfl
theorem data_all (l xs : List IV) (nl : Option Bool) (cl : Bool) (z : Nat) (p : Int → Int) (q : Int → Bool) (c : Int → List IV → List IV → Bool) (g : Int → List IV → List IV → List IV) : Cb (tab [(29, intP q p), (18, putP c g)]) (fun _ _ => none) 21 [.osl 0 0, .fsl nl cl z xs] [.row 0 false 1 l] =
  (bif c (4 : Int) [IV.int IntKind.u64 (IntKind.u64.wrap (↑xs.length : Int))] l then
     bif decide (z = (1 : Nat) ∨ xs.length = (0 : Nat)) then
       bif
           decide
             (((g (4 : Int) [IV.int IntKind.u64 (IntKind.u64.wrap (↑xs.length : Int))] l).length + xs.length) * (1 : Nat) ≤
                 roomB ∧
               (g (4 : Int) [IV.int IntKind.u64 (IntKind.u64.wrap (↑xs.length : Int))] l).length + xs.length ≤ maxLen) then
         bif q (↑xs.length : Int) then
           bif
               decide
                 ((0 : Int) ≤ IntKind.i64.wrap (p (↑xs.length : Int) - (↑xs.length : Int)) ∧
                   IntKind.i64.wrap (p (↑xs.length : Int) - (↑xs.length : Int)) * (↑(1 : Nat) : Int) ≤ (↑roomB : Int) ∧
                     IntKind.i64.wrap (p (↑xs.length : Int) - (↑xs.length : Int)) ≤ (9223372036854775807 : Int)) then
             bif
                 decide
                   (((g (4 : Int) [IV.int IntKind.u64 (IntKind.u64.wrap (↑xs.length : Int))] l ++ xs).length +
                           (List.replicate (IntKind.i64.wrap (p (↑xs.length : Int) - (↑xs.length : Int))).toNat
                               (ofVal (Value.int IntKind.u8 (0 : Int)))).length) *
                         (1 : Nat) ≤
                       roomB ∧
                     (g (4 : Int) [IV.int IntKind.u64 (IntKind.u64.wrap (↑xs.length : Int))] l ++ xs).length +
                         (List.replicate (IntKind.i64.wrap (p (↑xs.length : Int) - (↑xs.length : Int))).toNat
                             (ofVal (Value.int IntKind.u8 (0 : Int)))).length ≤
                       maxLen) then
               some
                 (IV.osl (nat_lit 0) (nat_lit 1),
                   [Blk.row (nat_lit 1) false (nat_lit 1)
                       (g (4 : Int) [IV.int IntKind.u64 (IntKind.u64.wrap (↑xs.length : Int))] l ++ xs ++
                         List.replicate (IntKind.i64.wrap (p (↑xs.length : Int) - (↑xs.length : Int))).toNat
                           (ofVal (Value.int IntKind.u8 (0 : Int))))])
             else none
           else none
         else none
       else none
     else none
   else none) := by kernel_rfl
theorem dat_in (i : Int) (nl : Option Bool) (cl : Bool) (z : Nat) (xs l : List IV) (q : Int → Bool) (p : Int → Int) (c : Int → Int → Bool) (g : Int → Int → List IV) : Rd (tab [(30, intP q p), (22, byP c g)]) 0 31 122 (Sx 31 [.fsl nl cl z xs, .osl 0 0, .int .i64 i] [.row 0 false 1 l]) =
  (bif q (↑xs.length : Int) then
     bif decide (i < p (↑xs.length : Int)) then
       bif decide ((l.length + (1 : Nat)) * (1 : Nat) ≤ roomB ∧ l.length + (1 : Nat) ≤ maxLen) then
         some
           (Ex.normal,
             Sx (31 : Nat)
               [IV.fsl nl cl z xs, IV.osl (nat_lit 0) (nat_lit 0), IV.int IntKind.i64 (IntKind.i64.wrap (i + (1 : Int)))]
               [Blk.row (nat_lit 0) false (nat_lit 1) (l ++ [IV.int IntKind.u8 (0 : Int)])])
       else none
     else
       some
         (Ex.exit (nat_lit 0),
           Sx (31 : Nat) [IV.fsl nl cl z xs, IV.osl (nat_lit 0) (nat_lit 0), IV.int IntKind.i64 i]
             [Blk.row (nat_lit 0) false (nat_lit 1) l])
   else none) := by kernel_rfl
theorem dat_all (nl : Option Bool) (cl : Bool) (z : Nat) (xs : List IV) (q : Int → Bool) (p : Int → Int) (c : Int → Int → Bool) (g : Int → Int → List IV) (c2 : List IV → List IV → Int → Bool) (g2 : List IV → List IV → List IV) (t : List IV → Int) : Cb (tab [(30, intP q p), (22, byP c g)]) (ltab [(31, 122, LF 31 0 (datL c2 g2 t))]) 31 [.fsl nl cl z xs] [] =
  (bif c (IntKind.u64.wrap (↑xs.length : Int)) (4 : Int) then
     bif decide (z = (1 : Nat) ∨ xs.length = (0 : Nat)) then
       bif
           decide
             (((g (IntKind.u64.wrap (↑xs.length : Int)) (4 : Int)).length + xs.length) * (1 : Nat) ≤ roomB ∧
               (g (IntKind.u64.wrap (↑xs.length : Int)) (4 : Int)).length + xs.length ≤ maxLen) then
         bif c2 xs (g (IntKind.u64.wrap (↑xs.length : Int)) (4 : Int) ++ xs) (0 : Int) then
           some
             (IV.osl (nat_lit 0) (nat_lit 0),
               [Blk.row (nat_lit 0) false (nat_lit 1) (g2 xs (g (IntKind.u64.wrap (↑xs.length : Int)) (4 : Int) ++ xs))])
         else none
       else none
     else none
   else none) := by kernel_rfl
theorem get_in (n len i : Int) (nl : Option Bool) (cl : Bool) (z : Nat) (xs : List IV) : Rd (tab []) 0 33 58 (Sx 33 [.int .u64 n, .fsl nl cl z xs, .int .i64 len, .int .i64 i] []) =
  (bif decide (i < len) then
     bif decide (z = (1 : Nat) ∧ (0 : Int) ≤ i ∧ i < (↑xs.length : Int)) then
       bif isOf (LT.i IntKind.u8) (nthD (nthD xs i.toNat).cells (0 : Nat)) then
         some
           (Ex.normal,
             Sx (33 : Nat)
               [IV.int IntKind.u64
                   (ibits BinOp.or IntKind.u64 (IntKind.u64.wrap (n * (2 : Int) ^ (8 : Nat)))
                     (IntKind.u64.wrap (intOf (nthD (nthD xs i.toNat).cells (0 : Nat))))),
                 IV.fsl nl cl z xs, IV.int IntKind.i64 len, IV.int IntKind.i64 (IntKind.i64.wrap (i + (1 : Int)))]
               [])
       else none
     else none
   else
     some
       (Ex.exit (nat_lit 0),
         Sx (33 : Nat) [IV.int IntKind.u64 n, IV.fsl nl cl z xs, IV.int IntKind.i64 len, IV.int IntKind.i64 i] [])) := by kernel_rfl
theorem get_all (nl : Option Bool) (cl : Bool) (z : Nat) (xs : List IV) (c : Int → List IV → Int → Int → Bool) (g : List IV → Int) : Cb (tab []) (ltab [(33, 58, LF 33 0 (getL c g))]) 33 [.fsl nl cl 1 xs] [] =
  (bif c (0 : Int) xs (↑xs.length : Int) (0 : Int) then some (IV.int IntKind.u64 (g xs), []) else none) := by kernel_rfl

end Go.Proofs.Ytphddjolipaejaa
