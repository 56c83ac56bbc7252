/- What the law ChooseMiddle answers. It bears no condition. -/
import Derived.Test.YtfcedalbamafiaaChC
namespace Go.Proofs.Ytfcedalbamafiaa
open Go Go.Im
set_option linter.unusedVariables false
set_option linter.unusedSimpArgs false

theorem alive_known : Known Try.prog hint 10 aliveF := by
  refine known_of fits (spec := tab []) tab_nil loops_none ?_
  intro xs T v T1 h
  unfold aliveF at h
  split at h
  · simp only [List.mem_cons, List.not_mem_nil, or_false, Prod.mk.injEq] at h
    obtain ⟨_, rfl, rfl⟩ := h
    exact ⟨60, by kernel_rfl⟩
  · cases h

/-! ### The law's loop: the least, the greatest, and all moved -/
def loG (zs : List Int) : Nat → Int
  | 0 => zs.getD 0 0
  | n + 1 => if zs.getD n 0 < loG zs n then zs.getD n 0 else loG zs n
def hiG (zs : List Int) : Nat → Int
  | 0 => zs.getD 0 0
  | n + 1 => if zs.getD n 0 > hiG zs n then zs.getD n 0 else hiG zs n
def movL (zs : List Int) (b : Int) (n : Nat) : List IV := (List.range n).map fun j => IV.int .i64 (IntKind.i64.wrap (zs.getD j 0 + b))
def okP (z : Nat) (xs : List IV) (z' : Nat) (ys : List IV) : Bool := okRow z xs && okRow z' ys
abbrev tabM' : FuncId → Option SpecF := tabM okP combV combE fitB
theorem mid_round0 (nl : Option Bool) (cl : Bool) (z : Nat) (xs : List IV) (nl' : Option Bool) (cl' : Bool) (z' : Nat) (ys : List IV) (b c lo hi i : Int) : Rd tabM' 5 1018 (Sx 5 [.fsl nl cl z xs, .fsl nl' cl' z' ys, .int .i64 b, .int .i64 c, .int .i64 lo, .int .i64 hi, .fsl (some true) true 0 [], .int .i64 i] []) =
  (bif decide (i < (↑xs.length : Int)) then
     bif decide (z = (1 : Nat) ∧ (0 : Int) ≤ i ∧ i < (↑xs.length : Int)) then
       bif isOf (LT.i IntKind.i64) (nthD (nthD xs i.toNat).cells (0 : Nat)) then
         bif decide (intOf (nthD (nthD xs i.toNat).cells (0 : Nat)) < lo) then
           bif decide (z = (1 : Nat) ∧ (0 : Int) ≤ i ∧ i < (↑xs.length : Int)) then
             bif isOf (LT.i IntKind.i64) (nthD (nthD xs i.toNat).cells (0 : Nat)) then
               bif decide (z = (1 : Nat) ∧ (0 : Int) ≤ i ∧ i < (↑xs.length : Int)) then
                 bif isOf (LT.i IntKind.i64) (nthD (nthD xs i.toNat).cells (0 : Nat)) then
                   bif decide (intOf (nthD (nthD xs i.toNat).cells (0 : Nat)) > hi) then
                     bif decide (z = (1 : Nat) ∧ (0 : Int) ≤ i ∧ i < (↑xs.length : Int)) then
                       bif isOf (LT.i IntKind.i64) (nthD (nthD xs i.toNat).cells (0 : Nat)) then
                         bif decide (z = (1 : Nat) ∧ (0 : Int) ≤ i ∧ i < (↑xs.length : Int)) then
                           bif isOf (LT.i IntKind.i64) (nthD (nthD xs i.toNat).cells (0 : Nat)) then
                             some
                               (Ex.normal,
                                 Sx (5 : Nat)
                                   [IV.fsl nl cl z xs, IV.fsl nl' cl' z' ys, IV.int IntKind.i64 b, IV.int IntKind.i64 c,
                                     IV.int IntKind.i64 (intOf (nthD (nthD xs i.toNat).cells (0 : Nat))),
                                     IV.int IntKind.i64 (intOf (nthD (nthD xs i.toNat).cells (0 : Nat))),
                                     IV.osl (nat_lit 0) (nat_lit 0), IV.int IntKind.i64 (IntKind.i64.wrap (i + (1 : Int)))]
                                   [Blk.row (nat_lit 0) false (nat_lit 1)
                                       [IV.int IntKind.i64
                                           (IntKind.i64.wrap (intOf (nthD (nthD xs i.toNat).cells (0 : Nat)) + b))]])
                           else none
                         else none
                       else none
                     else none
                   else
                     bif decide (z = (1 : Nat) ∧ (0 : Int) ≤ i ∧ i < (↑xs.length : Int)) then
                       bif isOf (LT.i IntKind.i64) (nthD (nthD xs i.toNat).cells (0 : Nat)) then
                         some
                           (Ex.normal,
                             Sx (5 : Nat)
                               [IV.fsl nl cl z xs, IV.fsl nl' cl' z' ys, IV.int IntKind.i64 b, IV.int IntKind.i64 c,
                                 IV.int IntKind.i64 (intOf (nthD (nthD xs i.toNat).cells (0 : Nat))),
                                 IV.int IntKind.i64 hi, IV.osl (nat_lit 0) (nat_lit 0),
                                 IV.int IntKind.i64 (IntKind.i64.wrap (i + (1 : Int)))]
                               [Blk.row (nat_lit 0) false (nat_lit 1)
                                   [IV.int IntKind.i64
                                       (IntKind.i64.wrap (intOf (nthD (nthD xs i.toNat).cells (0 : Nat)) + b))]])
                       else none
                     else none
                 else none
               else none
             else none
           else none
         else
           bif decide (z = (1 : Nat) ∧ (0 : Int) ≤ i ∧ i < (↑xs.length : Int)) then
             bif isOf (LT.i IntKind.i64) (nthD (nthD xs i.toNat).cells (0 : Nat)) then
               bif decide (intOf (nthD (nthD xs i.toNat).cells (0 : Nat)) > hi) then
                 bif decide (z = (1 : Nat) ∧ (0 : Int) ≤ i ∧ i < (↑xs.length : Int)) then
                   bif isOf (LT.i IntKind.i64) (nthD (nthD xs i.toNat).cells (0 : Nat)) then
                     bif decide (z = (1 : Nat) ∧ (0 : Int) ≤ i ∧ i < (↑xs.length : Int)) then
                       bif isOf (LT.i IntKind.i64) (nthD (nthD xs i.toNat).cells (0 : Nat)) then
                         some
                           (Ex.normal,
                             Sx (5 : Nat)
                               [IV.fsl nl cl z xs, IV.fsl nl' cl' z' ys, IV.int IntKind.i64 b, IV.int IntKind.i64 c,
                                 IV.int IntKind.i64 lo,
                                 IV.int IntKind.i64 (intOf (nthD (nthD xs i.toNat).cells (0 : Nat))),
                                 IV.osl (nat_lit 0) (nat_lit 0), IV.int IntKind.i64 (IntKind.i64.wrap (i + (1 : Int)))]
                               [Blk.row (nat_lit 0) false (nat_lit 1)
                                   [IV.int IntKind.i64
                                       (IntKind.i64.wrap (intOf (nthD (nthD xs i.toNat).cells (0 : Nat)) + b))]])
                       else none
                     else none
                   else none
                 else none
               else
                 bif decide (z = (1 : Nat) ∧ (0 : Int) ≤ i ∧ i < (↑xs.length : Int)) then
                   bif isOf (LT.i IntKind.i64) (nthD (nthD xs i.toNat).cells (0 : Nat)) then
                     some
                       (Ex.normal,
                         Sx (5 : Nat)
                           [IV.fsl nl cl z xs, IV.fsl nl' cl' z' ys, IV.int IntKind.i64 b, IV.int IntKind.i64 c,
                             IV.int IntKind.i64 lo, IV.int IntKind.i64 hi, IV.osl (nat_lit 0) (nat_lit 0),
                             IV.int IntKind.i64 (IntKind.i64.wrap (i + (1 : Int)))]
                           [Blk.row (nat_lit 0) false (nat_lit 1)
                               [IV.int IntKind.i64
                                   (IntKind.i64.wrap (intOf (nthD (nthD xs i.toNat).cells (0 : Nat)) + b))]])
                   else none
                 else none
             else none
           else none
       else none
     else none
   else
     some
       (Ex.exit (nat_lit 0),
         Sx (5 : Nat)
           [IV.fsl nl cl z xs, IV.fsl nl' cl' z' ys, IV.int IntKind.i64 b, IV.int IntKind.i64 c, IV.int IntKind.i64 lo,
             IV.int IntKind.i64 hi, IV.fsl (some true) true (nat_lit 0) [], IV.int IntKind.i64 i]
           [])) := by kernel_rfl
theorem mid_round (nl : Option Bool) (cl : Bool) (z : Nat) (xs : List IV) (nl' : Option Bool) (cl' : Bool) (z' : Nat) (ys : List IV) (b c lo hi i : Int) (l : List IV) : Rd tabM' 5 1018 (Sx 5 [.fsl nl cl z xs, .fsl nl' cl' z' ys, .int .i64 b, .int .i64 c, .int .i64 lo, .int .i64 hi, .osl 0 0, .int .i64 i] [.row 0 false 1 l]) =
  (bif decide (i < (↑xs.length : Int)) then
     bif decide (z = (1 : Nat) ∧ (0 : Int) ≤ i ∧ i < (↑xs.length : Int)) then
       bif isOf (LT.i IntKind.i64) (nthD (nthD xs i.toNat).cells (0 : Nat)) then
         bif decide (intOf (nthD (nthD xs i.toNat).cells (0 : Nat)) < lo) then
           bif decide (z = (1 : Nat) ∧ (0 : Int) ≤ i ∧ i < (↑xs.length : Int)) then
             bif isOf (LT.i IntKind.i64) (nthD (nthD xs i.toNat).cells (0 : Nat)) then
               bif decide (z = (1 : Nat) ∧ (0 : Int) ≤ i ∧ i < (↑xs.length : Int)) then
                 bif isOf (LT.i IntKind.i64) (nthD (nthD xs i.toNat).cells (0 : Nat)) then
                   bif decide (intOf (nthD (nthD xs i.toNat).cells (0 : Nat)) > hi) then
                     bif decide (z = (1 : Nat) ∧ (0 : Int) ≤ i ∧ i < (↑xs.length : Int)) then
                       bif isOf (LT.i IntKind.i64) (nthD (nthD xs i.toNat).cells (0 : Nat)) then
                         bif decide (z = (1 : Nat) ∧ (0 : Int) ≤ i ∧ i < (↑xs.length : Int)) then
                           bif isOf (LT.i IntKind.i64) (nthD (nthD xs i.toNat).cells (0 : Nat)) then
                             bif
                                 decide
                                   ((l.length +
                                           [IV.int IntKind.i64
                                                 (IntKind.i64.wrap
                                                   (intOf (nthD (nthD xs i.toNat).cells (0 : Nat)) + b))].length) *
                                         (8 : Nat) ≤
                                       roomB ∧
                                     l.length +
                                         [IV.int IntKind.i64
                                               (IntKind.i64.wrap
                                                 (intOf (nthD (nthD xs i.toNat).cells (0 : Nat)) + b))].length ≤
                                       maxLen) then
                               some
                                 (Ex.normal,
                                   Sx (5 : Nat)
                                     [IV.fsl nl cl z xs, IV.fsl nl' cl' z' ys, IV.int IntKind.i64 b, IV.int IntKind.i64 c,
                                       IV.int IntKind.i64 (intOf (nthD (nthD xs i.toNat).cells (0 : Nat))),
                                       IV.int IntKind.i64 (intOf (nthD (nthD xs i.toNat).cells (0 : Nat))),
                                       IV.osl (nat_lit 0) (nat_lit 0),
                                       IV.int IntKind.i64 (IntKind.i64.wrap (i + (1 : Int)))]
                                     [Blk.row (nat_lit 0) false (nat_lit 1)
                                         (l ++
                                           [IV.int IntKind.i64
                                               (IntKind.i64.wrap (intOf (nthD (nthD xs i.toNat).cells (0 : Nat)) + b))])])
                             else none
                           else none
                         else none
                       else none
                     else none
                   else
                     bif decide (z = (1 : Nat) ∧ (0 : Int) ≤ i ∧ i < (↑xs.length : Int)) then
                       bif isOf (LT.i IntKind.i64) (nthD (nthD xs i.toNat).cells (0 : Nat)) then
                         bif
                             decide
                               ((l.length +
                                       [IV.int IntKind.i64
                                             (IntKind.i64.wrap
                                               (intOf (nthD (nthD xs i.toNat).cells (0 : Nat)) + b))].length) *
                                     (8 : Nat) ≤
                                   roomB ∧
                                 l.length +
                                     [IV.int IntKind.i64
                                           (IntKind.i64.wrap
                                             (intOf (nthD (nthD xs i.toNat).cells (0 : Nat)) + b))].length ≤
                                   maxLen) then
                           some
                             (Ex.normal,
                               Sx (5 : Nat)
                                 [IV.fsl nl cl z xs, IV.fsl nl' cl' z' ys, IV.int IntKind.i64 b, IV.int IntKind.i64 c,
                                   IV.int IntKind.i64 (intOf (nthD (nthD xs i.toNat).cells (0 : Nat))),
                                   IV.int IntKind.i64 hi, IV.osl (nat_lit 0) (nat_lit 0),
                                   IV.int IntKind.i64 (IntKind.i64.wrap (i + (1 : Int)))]
                                 [Blk.row (nat_lit 0) false (nat_lit 1)
                                     (l ++
                                       [IV.int IntKind.i64
                                           (IntKind.i64.wrap (intOf (nthD (nthD xs i.toNat).cells (0 : Nat)) + b))])])
                         else none
                       else none
                     else none
                 else none
               else none
             else none
           else none
         else
           bif decide (z = (1 : Nat) ∧ (0 : Int) ≤ i ∧ i < (↑xs.length : Int)) then
             bif isOf (LT.i IntKind.i64) (nthD (nthD xs i.toNat).cells (0 : Nat)) then
               bif decide (intOf (nthD (nthD xs i.toNat).cells (0 : Nat)) > hi) then
                 bif decide (z = (1 : Nat) ∧ (0 : Int) ≤ i ∧ i < (↑xs.length : Int)) then
                   bif isOf (LT.i IntKind.i64) (nthD (nthD xs i.toNat).cells (0 : Nat)) then
                     bif decide (z = (1 : Nat) ∧ (0 : Int) ≤ i ∧ i < (↑xs.length : Int)) then
                       bif isOf (LT.i IntKind.i64) (nthD (nthD xs i.toNat).cells (0 : Nat)) then
                         bif
                             decide
                               ((l.length +
                                       [IV.int IntKind.i64
                                             (IntKind.i64.wrap
                                               (intOf (nthD (nthD xs i.toNat).cells (0 : Nat)) + b))].length) *
                                     (8 : Nat) ≤
                                   roomB ∧
                                 l.length +
                                     [IV.int IntKind.i64
                                           (IntKind.i64.wrap
                                             (intOf (nthD (nthD xs i.toNat).cells (0 : Nat)) + b))].length ≤
                                   maxLen) then
                           some
                             (Ex.normal,
                               Sx (5 : Nat)
                                 [IV.fsl nl cl z xs, IV.fsl nl' cl' z' ys, IV.int IntKind.i64 b, IV.int IntKind.i64 c,
                                   IV.int IntKind.i64 lo,
                                   IV.int IntKind.i64 (intOf (nthD (nthD xs i.toNat).cells (0 : Nat))),
                                   IV.osl (nat_lit 0) (nat_lit 0), IV.int IntKind.i64 (IntKind.i64.wrap (i + (1 : Int)))]
                                 [Blk.row (nat_lit 0) false (nat_lit 1)
                                     (l ++
                                       [IV.int IntKind.i64
                                           (IntKind.i64.wrap (intOf (nthD (nthD xs i.toNat).cells (0 : Nat)) + b))])])
                         else none
                       else none
                     else none
                   else none
                 else none
               else
                 bif decide (z = (1 : Nat) ∧ (0 : Int) ≤ i ∧ i < (↑xs.length : Int)) then
                   bif isOf (LT.i IntKind.i64) (nthD (nthD xs i.toNat).cells (0 : Nat)) then
                     bif
                         decide
                           ((l.length +
                                   [IV.int IntKind.i64
                                         (IntKind.i64.wrap (intOf (nthD (nthD xs i.toNat).cells (0 : Nat)) + b))].length) *
                                 (8 : Nat) ≤
                               roomB ∧
                             l.length +
                                 [IV.int IntKind.i64
                                       (IntKind.i64.wrap (intOf (nthD (nthD xs i.toNat).cells (0 : Nat)) + b))].length ≤
                               maxLen) then
                       some
                         (Ex.normal,
                           Sx (5 : Nat)
                             [IV.fsl nl cl z xs, IV.fsl nl' cl' z' ys, IV.int IntKind.i64 b, IV.int IntKind.i64 c,
                               IV.int IntKind.i64 lo, IV.int IntKind.i64 hi, IV.osl (nat_lit 0) (nat_lit 0),
                               IV.int IntKind.i64 (IntKind.i64.wrap (i + (1 : Int)))]
                             [Blk.row (nat_lit 0) false (nat_lit 1)
                                 (l ++
                                   [IV.int IntKind.i64
                                       (IntKind.i64.wrap (intOf (nthD (nthD xs i.toNat).cells (0 : Nat)) + b))])])
                     else none
                   else none
                 else none
             else none
           else none
       else none
     else none
   else
     some
       (Ex.exit (nat_lit 0),
         Sx (5 : Nat)
           [IV.fsl nl cl z xs, IV.fsl nl' cl' z' ys, IV.int IntKind.i64 b, IV.int IntKind.i64 c, IV.int IntKind.i64 lo,
             IV.int IntKind.i64 hi, IV.osl (nat_lit 0) (nat_lit 0), IV.int IntKind.i64 i]
           [Blk.row (nat_lit 0) false (nat_lit 1) l])) := by kernel_rfl
def midT (z : Nat) (xs : List IV) : Bool := okRow z xs && decide (xs.length ≤ 64) && !(xs.isEmpty)
def midG : LiveF := fun vs bx => match vs, bx with
  | [.fsl nl cl z xs, .fsl nl' cl' z' ys, .int .i64 b, .int .i64 c, .int .i64 lo, .int .i64 hi, .fsl (some true) true 0 [], .int .i64 i], [] =>
    [(midT z xs && decide (i = 0 ∧ lo = (toInts xs).getD 0 0 ∧ hi = (toInts xs).getD 0 0), .exit 0, [.fsl nl cl z xs, .fsl nl' cl' z' ys, .int .i64 b, .int .i64 c, .int .i64 (loG (toInts xs) xs.length), .int .i64 (hiG (toInts xs) xs.length), .osl 0 0, .int .i64 (xs.length : Nat)], [.row 0 false 1 (movL (toInts xs) b xs.length)])]
  | _, _ => []
def midS (nl : Option Bool) (cl : Bool) (zs : List Int) (nl' : Option Bool) (cl' : Bool) (z' : Nat) (ys : List IV) (b c : Int) : Nat → List IV × List Blk
  | 0 => ([.fsl nl cl 1 (zs.map (IV.int .i64)), .fsl nl' cl' z' ys, .int .i64 b, .int .i64 c, .int .i64 (loG zs 0), .int .i64 (hiG zs 0), .fsl (some true) true 0 [], .int .i64 0], [])
  | n + 1 => ([.fsl nl cl 1 (zs.map (IV.int .i64)), .fsl nl' cl' z' ys, .int .i64 b, .int .i64 c, .int .i64 (loG zs (n + 1)), .int .i64 (hiG zs (n + 1)), .osl 0 0, .int .i64 ((n + 1 : Nat) : Int)], [.row 0 false 1 (movL zs b (n + 1))])
theorem mid_step (nl : Option Bool) (cl : Bool) {zs : List Int} (hf : zs.length ≤ 64) (nl' : Option Bool) (cl' : Bool) (z' : Nat) (ys : List IV) (b c : Int) {i : Nat} (hi : i < zs.length) :
    Rd tabM' 5 1018 (Sx 5 (midS nl cl zs nl' cl' z' ys b c i).1 (midS nl cl zs nl' cl' z' ys b c i).2) = some (.normal, Sx 5 (midS nl cl zs nl' cl' z' ys b c (i + 1)).1 (midS nl cl zs nl' cl' z' ys b c (i + 1)).2) := by
  have hw : IntKind.i64.wrap ((i : Int) + 1) = ((i + 1 : Nat) : Int) := by rw [wrap_i64]; omega
  have d1 : decide ((i : Int) < ((zs.map (IV.int .i64)).length : Int)) = true := by simp; omega
  have d2 : decide (1 = 1 ∧ (0 : Int) ≤ i ∧ (i : Int) < ((zs.map (IV.int .i64)).length : Int)) = true := by simp; omega
  have hmv : movL zs b (i + 1) = movL zs b i ++ [IV.int .i64 (IntKind.i64.wrap (zs.getD i 0 + b))] := by simp [movL, List.range_succ]
  cases i with
  | zero =>
    have hw : IntKind.i64.wrap ((0 : Int) + 1) = ((0 + 1 : Nat) : Int) := by decide
    simp only [midS]
    refine (mid_round0 _ _ _ _ _ _ _ _ _ _ _ _ _).trans ?_
    have d1 : decide ((0 : Int) < ((zs.map (IV.int .i64)).length : Int)) = true := by simpa using d1
    have d2 : decide (1 = 1 ∧ (0 : Int) ≤ (0 : Int) ∧ (0 : Int) < ((zs.map (IV.int .i64)).length : Int)) = true := by simpa using d2
    rw [hmv, d1, d2]
    have l1 : loG zs (0 + 1) = zs.getD 0 0 := if_neg (Int.lt_irrefl _)
    have l2 : hiG zs (0 + 1) = zs.getD 0 0 := if_neg (Int.lt_irrefl _)
    have l3 : loG zs 0 = zs.getD 0 0 := rfl
    have l4 : hiG zs 0 = zs.getD 0 0 := rfl
    rw [l1, l2, l3, l4]
    have g1 : decide (zs.getD 0 0 < zs.getD 0 0) = false := by simp
    have g2 : decide (zs.getD 0 0 > zs.getD 0 0) = false := by simp
    simp only [cond_true, Int.toNat_zero, nthD_map hi, IV.cells, nthD_one, isOf_int, intOf_int, hw, movL, List.range_zero, List.map_nil, List.nil_append, g1, g2, cond_false]
  | succ j =>
    simp only [midS]
    refine (mid_round _ _ _ _ _ _ _ _ _ _ _ _ _ _).trans ?_
    rw [hmv, d1, d2]
    have hr : decide (((movL zs b (j + 1)).length + 1) * 8 ≤ roomB ∧ (movL zs b (j + 1)).length + 1 ≤ maxLen) = true := by
      simp only [movL, List.length_map, List.length_range, decide_eq_true_eq]
      exact ⟨by unfold roomB; omega, Nat.le_trans (show j + 1 + 1 ≤ 64 by omega) (by decide)⟩
    simp only [cond_true, Int.toNat_natCast, nthD_map hi, IV.cells, nthD_one, isOf_int, intOf_int, hw, List.length_cons, List.length_nil, Nat.zero_add, hr]
    have e1 : loG zs (j + 1 + 1) = if zs.getD (j + 1) 0 < loG zs (j + 1) then zs.getD (j + 1) 0 else loG zs (j + 1) := rfl
    have e2 : hiG zs (j + 1 + 1) = if zs.getD (j + 1) 0 > hiG zs (j + 1) then zs.getD (j + 1) 0 else hiG zs (j + 1) := rfl
    rw [e1, e2]
    by_cases p1 : zs.getD (j + 1) 0 < loG zs (j + 1) <;> by_cases p2 : zs.getD (j + 1) 0 > hiG zs (j + 1) <;> simp only [p1, p2, decide_true, decide_false, cond_true, cond_false, if_true, if_false]
theorem mid_loop : LoopOK Try.prog hint (acall Try.prog hint (ovrOf tabM')) (itOf Try.prog hint (acall Try.prog hint (ovrOf tabM'))) (hint.kp 5) (itemAt Try.prog 5 1018) (loopF Try.prog hint 5 0 midG) := by
  refine loopF_ok fun vs bx e vs' bx' h => ?_
  unfold midG at h
  split at h
  · rename_i nl cl z xs nl' cl' z' ys b c lo hi i
    simp only [List.mem_cons, List.not_mem_nil, or_false, Prod.mk.injEq] at h
    obtain ⟨h1, rfl, rfl, rfl⟩ := h
    simp only [midT, Bool.true_eq, Bool.and_eq_true, decide_eq_true_eq, Bool.not_eq_true'] at h1
    obtain ⟨⟨⟨h1, hf⟩, hne⟩, rfl, rfl, rfl⟩ := h1
    obtain ⟨rfl, hx, _⟩ := okRow_iff h1
    have hin := inner_of (P := Try.prog) (H := hint) (call := acall Try.prog hint (ovrOf tabM')) (f := 5) (q := 1018) (ls := fun _ _ => none) (by kernel_rfl)
    generalize hzs : toInts xs = zs at *
    subst hx
    simp only [List.length_map] at hf ⊢
    have hn : zs.length ≠ 0 := by
      intro h0
      have : zs = [] := List.eq_nil_of_length_eq_zero h0
      subst this
      simp at hne
    have := runs_up (X := Unit) (S := fun i _ => Sx 5 (midS nl cl zs nl' cl' z' ys b c i).1 (midS nl cl zs nl' cl' z' ys b c i).2) (N := zs.length) (g := fun _ x => x) (e := .exit 0)
      (E := fun _ => Sx 5 (midS nl cl zs nl' cl' z' ys b c zs.length).1 (midS nl cl zs nl' cl' z' ys b c zs.length).2) loops_none hin (by simp) (fun i _ hi => mid_step nl cl hf nl' cl' z' ys b c hi) (fun _ => by
        obtain ⟨m, hm⟩ : ∃ m, zs.length = m + 1 := ⟨zs.length - 1, by omega⟩
        rw [hm]
        simp only [midS]
        refine (mid_round _ _ _ _ _ _ _ _ _ _ _ _ _ _).trans ?_
        have d1 : decide (((m + 1 : Nat) : Int) < ((zs.map (IV.int .i64)).length : Int)) = false := by simp; omega
        rw [d1]
        rfl) zs.length 0 () (by omega)
    obtain ⟨m, hm⟩ : ∃ m, zs.length = m + 1 := ⟨zs.length - 1, by omega⟩
    rw [hm] at this ⊢
    exact this
  · cases h
noncomputable abbrev midLs : FuncId → Nat → Option LoopF := ltab [(5, 1018, loopF Try.prog hint 5 0 midG)]
theorem midLs_ok : LoopsOK Try.prog hint (acall Try.prog hint (ovrOf tabM')) midLs := ltab_cons (by kernel_rfl) mid_loop ltab_nil
theorem mid_call (nl : Option Bool) (cl : Bool) (z : Nat) (xs : List IV) (nl' : Option Bool) (cl' : Bool) (z' : Nat) (ys : List IV) (b : Int) : callK Try.prog hint tabM' midLs 30 5 [.fsl nl cl z xs, .fsl nl' cl' z' ys, .int .i64 b] [] (fun v T => some (v, T)) =
  (bif okP z xs z' ys then
     bif combE xs ys != (0 : Int) then
       some
         (IV.bool
             (bif bif true then combV xs ys == (0 : Int) else false then
               (combE xs ys == (4 : Int)) ==
                 bif (↑xs.length : Int) == (0 : Int) then (↑ys.length : Int) == (0 : Int) else false
             else false),
           [])
     else
       bif decide (z = (1 : Nat) ∧ (0 : Int) ≤ (0 : Int) ∧ (0 : Int) < (↑xs.length : Int)) then
         bif isOf (LT.i IntKind.i64) (nthD (nthD xs (0 : Nat)).cells (0 : Nat)) then
           bif decide (z = (1 : Nat) ∧ (0 : Int) ≤ (0 : Int) ∧ (0 : Int) < (↑xs.length : Int)) then
             bif isOf (LT.i IntKind.i64) (nthD (nthD xs (0 : Nat)).cells (0 : Nat)) then
               bif
                   midT z xs &&
                     decide
                       ((0 : Int) = (0 : Int) ∧
                         intOf (nthD (nthD xs (0 : Nat)).cells (0 : Nat)) = (toInts xs).getD (0 : Nat) (0 : Int) ∧
                           intOf (nthD (nthD xs (0 : Nat)).cells (0 : Nat)) = (toInts xs).getD (0 : Nat) (0 : Int)) then
                 bif
                     bif decide (combV xs ys < loG (toInts xs) xs.length) then true
                     else decide (combV xs ys > hiG (toInts xs) xs.length) then
                   some (IV.bool false, [])
                 else
                   bif okP (1 : Nat) (movL (toInts xs) (b.tmod (1099511627776 : Int)) xs.length) z' ys then
                     bif okP (1 : Nat) (movL (toInts xs) (b.tmod (1099511627776 : Int)) xs.length) z' ys then
                       bif !fitB (movL (toInts xs) (b.tmod (1099511627776 : Int)) xs.length) ys then
                         some
                           (IV.bool
                               (bif true then
                                 combE (movL (toInts xs) (b.tmod (1099511627776 : Int)) xs.length) ys == (1 : Int)
                               else false),
                             [])
                       else
                         some
                           (IV.bool
                               (bif
                                   bif true then
                                     combE (movL (toInts xs) (b.tmod (1099511627776 : Int)) xs.length) ys == (0 : Int)
                                   else false then
                                 combV (movL (toInts xs) (b.tmod (1099511627776 : Int)) xs.length) ys ==
                                   IntKind.i64.wrap (combV xs ys + b.tmod (1099511627776 : Int))
                               else false),
                             [])
                     else none
                   else none
               else none
             else none
           else none
         else none
       else none
   else none) := by kernel_rfl

/-! ### The run -/
theorem tabM_ok : ∀ f F, tabM' f = some F → Known Try.prog hint f F := tab_cons alive_known (tab_cons comb_known (tab_cons rfit_known tab_nil))
theorem lo_le {zs : List Int} : ∀ {n j : Nat}, j < n → loG zs n ≤ zs.getD j 0
  | n + 1, j, h => by
    simp only [loG]
    rcases Nat.lt_succ_iff_lt_or_eq.1 h with h | h
    · have := lo_le (zs := zs) h
      split <;> omega
    · subst h
      split <;> omega
theorem hi_ge {zs : List Int} : ∀ {n j : Nat}, j < n → zs.getD j 0 ≤ hiG zs n
  | n + 1, j, h => by
    simp only [hiG]
    rcases Nat.lt_succ_iff_lt_or_eq.1 h with h | h
    · have := hi_ge (zs := zs) h
      split <;> omega
    · subst h
      split <;> omega
/-- A mean by weights lies between what its members lie between. -/
theorem mean_lo {zs ws : List Int} {B : Int} : ∀ {n : Nat}, (∀ j, j < n → B ≤ zs.getD j 0) → B * comA ws n ≤ comS zs ws n
  | 0, _ => by simp [comA, comS, psum]
  | n + 1, h => by
    have ih := mean_lo (ws := ws) (n := n) fun j hj => h j (by omega)
    have h1 := weight_lo (ws.getD n 0)
    have h2 := Int.mul_le_mul_of_nonneg_left (h n (by omega)) (show 0 ≤ weightG (ws.getD n 0) by omega)
    have e1 : comA ws (n + 1) = comA ws n + weightG (ws.getD n 0) := rfl
    have e2 : comS zs ws (n + 1) = comS zs ws n + weightG (ws.getD n 0) * zs.getD n 0 := rfl
    rw [e1, e2, Int.mul_add, Int.mul_comm B (weightG _)]
    omega
theorem mean_hi {zs ws : List Int} {B : Int} : ∀ {n : Nat}, (∀ j, j < n → zs.getD j 0 ≤ B) → comS zs ws n ≤ B * comA ws n
  | 0, _ => by simp [comA, comS, psum]
  | n + 1, h => by
    have ih := mean_hi (ws := ws) (n := n) fun j hj => h j (by omega)
    have h1 := weight_lo (ws.getD n 0)
    have h2 := Int.mul_le_mul_of_nonneg_left (h n (by omega)) (show 0 ≤ weightG (ws.getD n 0) by omega)
    have e1 : comA ws (n + 1) = comA ws n + weightG (ws.getD n 0) := rfl
    have e2 : comS zs ws (n + 1) = comS zs ws n + weightG (ws.getD n 0) * zs.getD n 0 := rfl
    rw [e1, e2, Int.mul_add, Int.mul_comm B (weightG _)]
    omega
theorem mean_move {zs zs' ws : List Int} {b : Int} : ∀ {n : Nat}, (∀ j, j < n → zs'.getD j 0 = zs.getD j 0 + b) → comS zs' ws n = comS zs ws n + b * comA ws n
  | 0, _ => by simp [comA, comS, psum]
  | n + 1, h => by
    have ih := mean_move (zs := zs) (zs' := zs') (ws := ws) (b := b) (n := n) fun j hj => h j (by omega)
    have e1 : comA ws (n + 1) = comA ws n + weightG (ws.getD n 0) := rfl
    have e2 : comS zs ws (n + 1) = comS zs ws n + weightG (ws.getD n 0) * zs.getD n 0 := rfl
    have e3 : comS zs' ws (n + 1) = comS zs' ws n + weightG (ws.getD n 0) * zs'.getD n 0 := rfl
    rw [e1, e2, e3, ih, h n (by omega), Int.mul_add, Int.mul_add, Int.mul_comm b (weightG _)]
    omega
theorem near_lo (x : Int) : -1099511627776 < x.tmod 1099511627776 := by rw [tmod_pos _ (by decide)]; split <;> omega
theorem near_hi (x : Int) : x.tmod 1099511627776 < 1099511627776 := by rw [tmod_pos _ (by decide)]; split <;> omega
theorem okRow_map {zs : List Int} (h : zs.length ≤ 4611686018427387904) : okRow 1 (zs.map (IV.int .i64)) = true := by
  simp only [okRow, isInts_map, List.length_map, decide_eq_true h]
  rfl

theorem mid_true (nl : Option Bool) (cl : Bool) (zs : List Int) (nl' : Option Bool) (cl' : Bool) (ws : List Int) (b : Int) (hz : zs.length ≤ 4611686018427387904) (hw : ws.length ≤ 4611686018427387904) :
    callK Try.prog hint tabM' midLs 30 5 [.fsl nl cl 1 (zs.map (IV.int .i64)), .fsl nl' cl' 1 (ws.map (IV.int .i64)), .int .i64 b] [] (fun v T => some (v, T)) = some (.bool true, []) := by
  refine (mid_call _ _ _ _ _ _ _ _ _).trans ?_
  have k1 : okRow 1 (zs.map (IV.int .i64)) = true := okRow_map hz
  have k2 : okRow 1 (ws.map (IV.int .i64)) = true := okRow_map hw
  have t1 : okP 1 (zs.map (IV.int .i64)) 1 (ws.map (IV.int .i64)) = true := by simp only [okP, k1, k2, Bool.and_self]
  rw [t1, cond_true]
  cases hf : fitB (zs.map (IV.int .i64)) (ws.map (IV.int .i64)) with
  | false =>
    have e1 : combE (zs.map (IV.int .i64)) (ws.map (IV.int .i64)) = 1 := by simp [combE, hf]
    have e2 : combV (zs.map (IV.int .i64)) (ws.map (IV.int .i64)) = 0 := by simp [combV, hf]
    rw [e1, e2]
    have : (bif ((zs.map (IV.int .i64)).length : Int) == 0 then ((ws.map (IV.int .i64)).length : Int) == 0 else false) = false := by
      cases zs with
      | cons z zs => simp; omega
      | nil => cases ws with
        | cons w ws => simp; omega
        | nil => exact absurd hf (by decide)
    rw [this]
    rfl
  | true =>
    have hp := fitB_p hf
    rw [toInts_map, toInts_map] at hp
    by_cases hx : zs = []
    · subst hx
      have : ws = [] := List.eq_nil_of_length_eq_zero hp.len.symm
      subst this
      have e1 : combE ([].map (IV.int .i64)) ([].map (IV.int .i64)) = 4 := by decide
      have e2 : combV ([].map (IV.int .i64)) ([].map (IV.int .i64)) = 0 := by decide
      rw [e1, e2]
      rfl
    · have hne : zs.map (IV.int .i64) ≠ [] := by simpa using hx
      have e1 : combE (zs.map (IV.int .i64)) (ws.map (IV.int .i64)) = 0 := by simp [combE, hf, hne]
      have e2 : combV (zs.map (IV.int .i64)) (ws.map (IV.int .i64)) = comS zs ws zs.length / comA ws zs.length := by simp [combV, hf, hne, toInts_map]
      have hl : 0 < zs.length := by
        rcases Nat.eq_zero_or_pos zs.length with h | h
        · exact absurd (List.eq_nil_of_length_eq_zero h) hx
        · exact h
      have hs := hp.sum (n := zs.length) (Nat.le_refl _)
      have ha := hp.all (n := zs.length) (Nat.le_refl _)
      have hfew := hp.few
      have hpos : 0 < comA ws zs.length := by omega
      have d0 : decide (1 = 1 ∧ (0 : Int) ≤ (0 : Int) ∧ (0 : Int) < ((zs.map (IV.int .i64)).length : Int)) = true := by simp; omega
      have ho := hp.off
      have hlo := mean_lo (ws := ws) (n := zs.length) fun j hj => lo_le (zs := zs) hj
      have hhi := mean_hi (ws := ws) (n := zs.length) fun j hj => hi_ge (zs := zs) hj
      have b1 : loG zs zs.length ≤ comS zs ws zs.length / comA ws zs.length := by rw [Int.le_ediv_iff_mul_le hpos]; exact hlo
      have b2 : comS zs ws zs.length / comA ws zs.length ≤ hiG zs zs.length := Int.ediv_le_of_le_mul hpos hhi
      have hmt : midT 1 (zs.map (IV.int .i64)) = true := by
        have : (zs.map (IV.int .i64)).isEmpty = false := by simpa using hx
        simp only [midT, k1, List.length_map, decide_eq_true hfew, this]
        rfl
      have n1 := near_lo b
      have n2 := near_hi b
      have hmap : movL zs (b.tmod 1099511627776) zs.length = (zs.map fun z => z + b.tmod 1099511627776).map (IV.int .i64) := by
        rw [movL, List.map_map]
        refine List.ext_getElem (by simp) fun i h1 h2 => ?_
        simp only [List.length_map, List.length_range] at h1
        have hz' : zs.getD i 0 = zs[i] := by rw [List.getD_eq_getElem?_getD, List.getElem?_eq_getElem h1]; rfl
        have hb := ho _ (List.getElem_mem h1)
        simp only [List.getElem_map, List.getElem_range, Function.comp, hz']
        congr 1
        rw [wrap_i64]
        omega
      have k3 : okRow 1 (movL zs (b.tmod 1099511627776) zs.length) = true := by rw [hmap]; exact okRow_map (by simpa using hz)
      have t2 : okP 1 (movL zs (b.tmod 1099511627776) zs.length) 1 (ws.map (IV.int .i64)) = true := by simp only [okP, k2, k3, Bool.and_self]
      have g1 : decide (comS zs ws zs.length / comA ws zs.length < loG zs zs.length) = false := by simp; omega
      have g2 : decide (comS zs ws zs.length / comA ws zs.length > hiG zs zs.length) = false := by simp; omega
      rw [e1, e2, nthD_map hl, d0]
      simp only [bne_self_eq_false, IV.cells, nthD_one, isOf_int, intOf_int, cond_true, hmt, toInts_map, List.length_map, g1, g2, t2, cond_false, decide_true, Bool.and_self, and_self, Bool.and_true]
      cases hf2 : fitB (movL zs (b.tmod 1099511627776) zs.length) (ws.map (IV.int .i64)) with
      | false =>
        have e3 : combE (movL zs (b.tmod 1099511627776) zs.length) (ws.map (IV.int .i64)) = 1 := by simp [combE, hf2]
        rw [e3]
        rfl
      | true =>
        have hne2 : movL zs (b.tmod 1099511627776) zs.length ≠ [] := by rw [hmap]; simpa using hx
        have e3 : combE (movL zs (b.tmod 1099511627776) zs.length) (ws.map (IV.int .i64)) = 0 := by simp [combE, hf2, hne2]
        have e4 : combV (movL zs (b.tmod 1099511627776) zs.length) (ws.map (IV.int .i64)) = comS (zs.map fun z => z + b.tmod 1099511627776) ws zs.length / comA ws zs.length := by
          have hlen : (movL zs (b.tmod 1099511627776) zs.length).length = zs.length := by simp [movL]
          simp only [combV, hf2, hne2, ne_eq, not_false_eq_true, and_self, if_true, hlen, toInts_map]
          rw [hmap, toInts_map]
        have e5 := mean_move (zs := zs) (zs' := zs.map fun z => z + b.tmod 1099511627776) (ws := ws) (b := b.tmod 1099511627776) (n := zs.length) fun j hj => by
          rw [List.getD_eq_getElem?_getD, List.getD_eq_getElem?_getD, List.getElem?_eq_getElem (by simpa using hj), List.getElem?_eq_getElem hj]
          simp
        have e6 : (comS zs ws zs.length + b.tmod 1099511627776 * comA ws zs.length) / comA ws zs.length = comS zs ws zs.length / comA ws zs.length + b.tmod 1099511627776 := Int.add_mul_ediv_right _ _ (by omega)
        have bd : -4611686018427387904 ≤ comS zs ws zs.length / comA ws zs.length ∧ comS zs ws zs.length / comA ws zs.length ≤ 4611686018427387904 := div_bound (by omega) hs.1 hs.2
        have e7 : IntKind.i64.wrap (comS zs ws zs.length / comA ws zs.length + b.tmod 1099511627776) = comS zs ws zs.length / comA ws zs.length + b.tmod 1099511627776 := by rw [wrap_i64]; omega
        rw [e3, e4, e5, e6, e7]
        simp
end Go.Proofs.Ytfcedalbamafiaa
