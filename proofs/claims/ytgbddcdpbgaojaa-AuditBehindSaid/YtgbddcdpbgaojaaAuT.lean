/- Matches told, and whether all have one: rounds and calls. It bears no condition. -/
import Derived.Test.YtgbddcdpbgaojaaAuS
-- BYTES bytsT
-- SUB (b0 : Bool)  => 
-- SUB (b0 : Bool) => 
-- SUB cstF b0 (.exit 0) (mtV => oneF (mtV (g (go l)) 0 0) [] (.exit 0) (mtV
-- SUB bif b0 then some (IV.int => bif sameS (mtV (g (go l)) 0 0) [] then some (IV.int
-- SUB cstF b0 (.exit 0) (pxV => oneF (pxV rows 0 (rows.length : Int) 0) [] (.exit 0) (pxV
-- SUB cstF b0 .ret (pxV => oneF (pxV rows 0 (rows.length : Int) 0) [] .ret (pxV
-- SUB bif b0 then some (IV.bool => bif sameS (pxV rows 0 (rows.length : Int) 0) [] then some (IV.bool
namespace Go.Proofs.Ytgbddcdpbgaojaa
open Go Go.Im
set_option linter.unusedVariables false
set_option linter.unusedSimpArgs false
/-! ### How many matches -/
abbrev mtV (rows : List IV) (n i : Int) : List IV := [.int .i64 n, .fsl none false 2 rows, .int .i64 i]
abbrev tabT (c : List IV → Bool) (g : List IV → List IV) (co : List IV → Bool) (go : List IV → List IV) : FuncId → Option SpecF := tab [(11, matP c g), (12, owP co go)]
theorem mt_in (sp : FuncId → Option SpecF) (rows : List IV) (n i : Int) : Rd sp 0 21 122 (Sx 21 (mtV rows n i) []) =
  (bif decide (i < (↑rows.length : Int)) then
     bif decide ((2 : Nat) = (2 : Nat) ∧ (0 : Int) ≤ i ∧ i < (↑rows.length : Int)) then
       bif isOf (LT.i IntKind.i64) (nthD (List.drop (1 : Nat) (nthD rows i.toNat).cells) (0 : Nat)) then
         bif decide (intOf (nthD (List.drop (1 : Nat) (nthD rows i.toNat).cells) (0 : Nat)) ≥ (0 : Int)) then
           some
             (Ex.normal,
               Sx (21 : Nat)
                 [IV.int IntKind.i64 (IntKind.i64.wrap (n + (1 : Int))), IV.fsl none false (nat_lit 2) rows,
                   IV.int IntKind.i64 (IntKind.i64.wrap (i + (1 : Int)))]
                 [])
         else
           some
             (Ex.normal,
               Sx (21 : Nat)
                 [IV.int IntKind.i64 n, IV.fsl none false (nat_lit 2) rows,
                   IV.int IntKind.i64 (IntKind.i64.wrap (i + (1 : Int)))]
                 [])
       else none
     else none
   else
     some
       (Ex.exit (nat_lit 0),
         Sx (21 : Nat) [IV.int IntKind.i64 n, IV.fsl none false (nat_lit 2) rows, IV.int IntKind.i64 i] [])) := by kernel_rfl
theorem mt_call (c : List IV → Bool) (g : List IV → List IV) (co : List IV → Bool) (go : List IV → List IV) (nl : Option Bool) (cl : Bool) (l : List IV) (n : Int) : Cb (tabT c g co go) (ltab [(21, 122, LF 21 0 (oneF (mtV (g (go l)) 0 0) [] (.exit 0) (mtV (g (go l)) n ((g (go l)).length : Int)) []))]) 21 [.fsl nl cl 5 l] [] =
  (bif co l then bif c (go l) then bif sameS (mtV (g (go l)) 0 0) [] then some (IV.int IntKind.i64 n, []) else none else none else none) := by kernel_rfl
def mtP (c : List IV → Bool) (g : List IV → Int) : SpecF := fun us T => match us, T with
  | [.fsl nl cl 5 l], [] => [(c l, .int .i64 (g l), [])]
  | _, _ => []
/-! ### Whether each has one -/
abbrev pxV (rows : List IV) (r n i : Int) : List IV := [.fsl none false 2 rows, .fn 30 [], .int .i64 r, .int .i64 n, .int .i64 i]
theorem px_in (rows : List IV) (r n i : Int) : Rd (tab []) 0 35 26 (Sx 35 (pxV rows r n i) []) =
  (bif decide (i < n) then
     bif decide ((2 : Nat) = (2 : Nat) ∧ (0 : Int) ≤ i ∧ i < (↑rows.length : Int)) then
       bif testAll (List.replicate (2 : Nat) [LT.i IntKind.i64]).flatten (0 : Nat) (nthD rows i.toNat).cells then
         bif decide (intOf (nthD (nthD rows i.toNat).cells (1 : Nat)) < (0 : Int)) then
           some
             (Ex.ret,
               Sx (35 : Nat)
                 [IV.fsl none false (nat_lit 2) rows, IV.fn (nat_lit 30) [], IV.int IntKind.i64 i, IV.int IntKind.i64 n,
                   IV.int IntKind.i64 i]
                 [])
         else
           some
             (Ex.normal,
               Sx (35 : Nat)
                 [IV.fsl none false (nat_lit 2) rows, IV.fn (nat_lit 30) [], IV.int IntKind.i64 r, IV.int IntKind.i64 n,
                   IV.int IntKind.i64 (IntKind.i64.wrap (i + (1 : Int)))]
                 [])
       else none
     else none
   else
     some
       (Ex.exit (nat_lit 0),
         Sx (35 : Nat)
           [IV.fsl none false (nat_lit 2) rows, IV.fn (nat_lit 30) [], IV.int IntKind.i64 r, IV.int IntKind.i64 n,
             IV.int IntKind.i64 i]
           [])) := by kernel_rfl
theorem px_no (rows : List IV) : Cb (tab []) (ltab [(35, 26, LF 35 0 (oneF (pxV rows 0 (rows.length : Int) 0) [] (.exit 0) (pxV rows 0 (rows.length : Int) (rows.length : Int)) []))]) 29 [.fsl none false 2 rows, .fn 30 []] [] =
  (bif sameS (pxV rows 0 (rows.length : Int) 0) [] then some (IV.bool false, []) else none) := by kernel_rfl
theorem px_yes (rows : List IV) (i : Int) : Cb (tab []) (ltab [(35, 26, LF 35 0 (oneF (pxV rows 0 (rows.length : Int) 0) [] .ret (pxV rows i (rows.length : Int) i) []))]) 29 [.fsl none false 2 rows, .fn 30 []] [] =
  (bif sameS (pxV rows 0 (rows.length : Int) 0) [] then some (IV.bool (decide (i ≥ (0 : Int))), []) else none) := by kernel_rfl
def pxP (c g : List IV → Bool) : SpecF := fun us T => match us, T with
  | [.fsl none false 2 l, .fn 30 []], [] => [(c l, .bool (g l), [])]
  | _, _ => []
theorem pr_tree (c : List IV → Bool) (g : List IV → List IV) (c' g' : List IV → Bool) (nl : Option Bool) (cl : Bool) (l : List IV) : C (tab [(11, matP c g), (29, pxP c' g')]) 19 [.fsl nl cl 5 l] =
  (bif c l then bif c' (g l) then some (IV.bool !g' (g l), []) else none else none) := by kernel_rfl
def matC (c1 c2 : List IV → Bool) : SpecF := fun us T => match us, T with
  | [.fsl nl cl 5 l], [] => (match l with
    | [_, _, _] => [(c1 l, .fsl none false 2 [.agg [.int .i64 1, .int .i64 0], .agg [.int .i64 2, .int .i64 (-1)]], [])]
    | [_, _] => [(c2 l, .fsl none false 2 [.agg [.int .i64 1, .int .i64 0]], [])]
    | _ => [])
  | _, _ => []
theorem alive_tree (c1 c2 : List IV → Bool) : callK Try.prog hint (tab [(11, matC c1 c2)]) (fun _ _ => none) 60 10 [] [] (fun v T => some (v, T)) =
  (bif
       c1
         [IV.agg
             [IV.int IntKind.i64 (1 : Int), IV.int IntKind.u32 (2 : Int), IV.int IntKind.u32 (1 : Int),
               IV.int IntKind.i64 (0 : Int), IV.fsl (some false) false (1 : Nat) [IV.int IntKind.u8 (120 : Int)]],
           IV.agg
             [IV.int IntKind.i64 (3 : Int), IV.int IntKind.u32 (1 : Int), IV.int IntKind.u32 (2 : Int),
               IV.int IntKind.i64 (0 : Int), IV.fsl (some false) false (1 : Nat) [IV.int IntKind.u8 (120 : Int)]],
           IV.agg
             [IV.int IntKind.i64 (3 : Int), IV.int IntKind.u32 (1 : Int), IV.int IntKind.u32 (2 : Int),
               IV.int IntKind.i64 (0 : Int), IV.fsl (some false) false (1 : Nat) [IV.int IntKind.u8 (120 : Int)]]] then
     bif
         c1
           [IV.agg
               [IV.int IntKind.i64 (1 : Int), IV.int IntKind.u32 (2 : Int), IV.int IntKind.u32 (1 : Int),
                 IV.int IntKind.i64 (0 : Int), IV.fsl (some false) false (1 : Nat) [IV.int IntKind.u8 (120 : Int)]],
             IV.agg
               [IV.int IntKind.i64 (3 : Int), IV.int IntKind.u32 (1 : Int), IV.int IntKind.u32 (2 : Int),
                 IV.int IntKind.i64 (0 : Int), IV.fsl (some false) false (1 : Nat) [IV.int IntKind.u8 (120 : Int)]],
             IV.agg
               [IV.int IntKind.i64 (3 : Int), IV.int IntKind.u32 (1 : Int), IV.int IntKind.u32 (2 : Int),
                 IV.int IntKind.i64 (0 : Int), IV.fsl (some false) false (1 : Nat) [IV.int IntKind.u8 (120 : Int)]]] then
       bif
           c2
             (List.take (2 : Nat)
               (List.drop (0 : Nat)
                 [IV.agg
                     [IV.int IntKind.i64 (1 : Int), IV.int IntKind.u32 (2 : Int), IV.int IntKind.u32 (1 : Int),
                       IV.int IntKind.i64 (0 : Int), IV.fsl (some false) false (1 : Nat) [IV.int IntKind.u8 (120 : Int)]],
                   IV.agg
                     [IV.int IntKind.i64 (3 : Int), IV.int IntKind.u32 (1 : Int), IV.int IntKind.u32 (2 : Int),
                       IV.int IntKind.i64 (0 : Int), IV.fsl (some false) false (1 : Nat) [IV.int IntKind.u8 (120 : Int)]],
                   IV.agg
                     [IV.int IntKind.i64 (3 : Int), IV.int IntKind.u32 (1 : Int), IV.int IntKind.u32 (2 : Int),
                       IV.int IntKind.i64 (0 : Int),
                       IV.fsl (some false) false (1 : Nat) [IV.int IntKind.u8 (120 : Int)]]])) then
         some (IV.bool true, [])
       else none
     else none
   else none) := by kernel_rfl
end Go.Proofs.Ytgbddcdpbgaojaa
