/- What the laws StampMoves and StampShorts answer. It bears no condition. -/
import Derived.Test.YthnleapnhkkeoaaDoorStB
namespace Go.Proofs.YthnleapnhkkeoaaDoor
open Go Go.Im
set_option linter.unusedVariables false
set_option linter.unusedSimpArgs false

def in32 (x : Int) : Bool := decide (0 ≤ x ∧ x ≤ 4294967295)
def inu64 (x : Int) : Bool := decide (0 ≤ x ∧ x ≤ 18446744073709551615)
theorem in32_iff {x : Int} : in32 x = true ↔ 0 ≤ x ∧ x ≤ 4294967295 := by simp [in32]
theorem inu64_iff {x : Int} : inu64 x = true ↔ 0 ≤ x ∧ x ≤ 18446744073709551615 := by simp [inu64]
abbrev makeG (x y : Int) : Int := x * 4294967296 + y
abbrev secG (x : Int) : Int := x / 4294967296
abbrev partG (x : Int) : Int := x % 4294967296
abbrev both32 (x y : Int) : Bool := in32 x && in32 y

theorem make_known : Known Tryd.prog hint 23 (F2 .u32 .u32 .u64 both32 makeG) := known2 tab_nil (n := 30) fun x y h => by
  have e : C (tab []) 23 [.int .u32 x, .int .u32 y] = some (IV.int IntKind.u64 (ibits BinOp.or IntKind.u64 (IntKind.u64.wrap (IntKind.u64.wrap x * 2 ^ 32)) (IntKind.u64.wrap y)), []) := by kernel_rfl
  refine e.trans ?_
  simp only [both32, Bool.and_eq_true, in32_iff] at h
  obtain ⟨⟨x1, x2⟩, y1, y2⟩ := h
  obtain ⟨X, rfl⟩ : ∃ X : Nat, x = X := ⟨x.toNat, by omega⟩
  obtain ⟨Y, rfl⟩ : ∃ Y : Nat, y = Y := ⟨y.toNat, by omega⟩
  have e1 : IntKind.u64.wrap (IntKind.u64.wrap (X : Int) * 2 ^ 32) = ((2 ^ 32 * X : Nat) : Int) := by
    have : (2 : Int) ^ 32 = 4294967296 := rfl
    rw [this]; simp only [wrap_u64]; omega
  have e2 : IntKind.u64.wrap (Y : Int) = (Y : Int) := by rw [wrap_u64]; omega
  rw [e1, e2]
  have e3 : ibits BinOp.or IntKind.u64 ((2 ^ 32 * X : Nat) : Int) (Y : Int) = ((2 ^ 32 * X + Y : Nat) : Int) := by
    show IntKind.u64.wrap (((BitVec.ofInt 64 ((2 ^ 32 * X : Nat) : Int)) ||| (BitVec.ofInt 64 (Y : Int))).toNat : Int) = _
    have a1 : (BitVec.ofInt 64 ((2 ^ 32 * X : Nat) : Int)).toNat = 2 ^ 32 * X := by rw [BitVec.toNat_ofInt]; omega
    have a2 : (BitVec.ofInt 64 (Y : Int)).toNat = Y := by rw [BitVec.toNat_ofInt]; omega
    rw [BitVec.toNat_or, a1, a2, ← Nat.two_pow_add_eq_or_of_lt (by omega), wrap_u64]
    omega
  rw [e3]
  congr 3
  simp only [makeG]
  omega

theorem rmake_known : Known Tryd.prog hint 26 (F2 .u32 .u32 .u64 both32 makeG) := known2 tab_nil (n := 30) fun x y h => by
  have e : C (tab []) 26 [.int .u32 x, .int .u32 y] = some (IV.int IntKind.u64 (IntKind.u64.wrap (IntKind.u64.wrap (IntKind.u64.wrap x * 4294967296) + IntKind.u64.wrap y)), []) := by kernel_rfl
  refine e.trans ?_
  simp only [both32, Bool.and_eq_true, in32_iff] at h
  congr 3
  simp only [makeG, wrap_u64]
  omega

theorem sec_known : Known Tryd.prog hint 24 (F1 .u64 .u32 inu64 secG) := known1 tab_nil (n := 30) fun x h => by
  have e : C (tab []) 24 [.int .u64 x] = some (IV.int IntKind.u32 (IntKind.u32.wrap (x.fdiv 4294967296)), []) := by kernel_rfl
  refine e.trans ?_
  simp only [inu64_iff] at h
  rw [fdiv_pos _ (by decide), wrap_u32]
  congr 3
  simp only [secG]
  omega
theorem part_known : Known Tryd.prog hint 25 (F1 .u64 .u32 yes1 partG) := known1 tab_nil (n := 30) fun x h => by
  have e : C (tab []) 25 [.int .u64 x] = some (IV.int IntKind.u32 (IntKind.u32.wrap x), []) := by kernel_rfl
  exact e

abbrev diffG (x y : Int) : Int := s64 (x - y)
abbrev tabZ (mk mk' df df' mv mv' : Int → Int → Int) (sc pt : Int → Int) : FuncId → Option SpecF := tab [(11, aliveF), (23, F2 .u32 .u32 .u64 both32 mk), (26, F2 .u32 .u32 .u64 both32 mk'), (24, F1 .u64 .u32 inu64 sc), (25, F1 .u64 .u32 yes1 pt),
  (21, F2 .u64 .u64 .i64 yes2 df), (27, F2 .u64 .u64 .i64 yes2 df'), (20, F2 .u64 .i64 .u64 yes2 mv), (28, F2 .u64 .i64 .u64 (fun _ y => in64 y) mv')]
theorem moves_tree (mk mk' df df' mv mv' : Int → Int → Int) (sc pt : Int → Int) (a b d : Int) : C (tabZ mk mk' df df' mv mv' sc pt) 9 [.int .u64 a, .int .u64 b, .int .i64 d] =
  (bif Go.Proofs.YthnleapnhkkeoaaDoor.inu64 a then
     bif Go.Proofs.YthnleapnhkkeoaaDoor.both32 (sc a) (pt a) then
       bif (bif Bool.true then mk (sc a) (pt a) == a else Bool.false) == Bool.true then
         bif (bif Bool.true then mk (sc a) (pt a) == a else Bool.false) == Bool.true then
           bif
               Go.Proofs.YthnleapnhkkeoaaDoor.both32
                 (Go.IntKind.u32.wrap (b.fdiv (2 ^ Min.min (Int.toNat 32) Go.IntKind.u64.bits)))
                 (Go.IntKind.u32.wrap b) then
             bif (bif Bool.true then mk (sc a) (pt a) == a else Bool.false) == Bool.true then
               bif (bif Bool.true then mk (sc a) (pt a) == a else Bool.false) == Bool.true then
                 bif
                     Go.Proofs.YthnleapnhkkeoaaDoor.both32
                       (Go.IntKind.u32.wrap (b.fdiv (2 ^ Min.min (Int.toNat 32) Go.IntKind.u64.bits)))
                       (Go.IntKind.u32.wrap b) then
                   bif
                       (bif bif Bool.true then mk (sc a) (pt a) == a else Bool.false then
                           mk (Go.IntKind.u32.wrap (b.fdiv (2 ^ Min.min (Int.toNat 32) Go.IntKind.u64.bits)))
                               (Go.IntKind.u32.wrap b) ==
                             mk' (Go.IntKind.u32.wrap (b.fdiv (2 ^ Min.min (Int.toNat 32) Go.IntKind.u64.bits)))
                               (Go.IntKind.u32.wrap b)
                         else Bool.false) ==
                         Bool.true then
                     bif
                         (bif bif Bool.true then mk (sc a) (pt a) == a else Bool.false then
                             mk (Go.IntKind.u32.wrap (b.fdiv (2 ^ Min.min (Int.toNat 32) Go.IntKind.u64.bits)))
                                 (Go.IntKind.u32.wrap b) ==
                               mk' (Go.IntKind.u32.wrap (b.fdiv (2 ^ Min.min (Int.toNat 32) Go.IntKind.u64.bits)))
                                 (Go.IntKind.u32.wrap b)
                           else Bool.false) ==
                           Bool.true then
                       bif
                           (bif
                                 bif bif Bool.true then mk (sc a) (pt a) == a else Bool.false then
                                   mk (Go.IntKind.u32.wrap (b.fdiv (2 ^ Min.min (Int.toNat 32) Go.IntKind.u64.bits)))
                                       (Go.IntKind.u32.wrap b) ==
                                     mk' (Go.IntKind.u32.wrap (b.fdiv (2 ^ Min.min (Int.toNat 32) Go.IntKind.u64.bits)))
                                       (Go.IntKind.u32.wrap b)
                                 else Bool.false then
                               df a b == df' a b
                             else Bool.false) ==
                             Bool.true then
                         bif
                             (bif
                                   bif bif Bool.true then mk (sc a) (pt a) == a else Bool.false then
                                     mk (Go.IntKind.u32.wrap (b.fdiv (2 ^ Min.min (Int.toNat 32) Go.IntKind.u64.bits)))
                                         (Go.IntKind.u32.wrap b) ==
                                       mk' (Go.IntKind.u32.wrap (b.fdiv (2 ^ Min.min (Int.toNat 32) Go.IntKind.u64.bits)))
                                         (Go.IntKind.u32.wrap b)
                                   else Bool.false then
                                 df a b == df' a b
                               else Bool.false) ==
                               Bool.true then
                           bif Go.Proofs.YthnleapnhkkeoaaDoor.in64 d then
                             bif
                                 (bif
                                       bif
                                           bif bif Bool.true then mk (sc a) (pt a) == a else Bool.false then
                                             mk
                                                 (Go.IntKind.u32.wrap
                                                   (b.fdiv (2 ^ Min.min (Int.toNat 32) Go.IntKind.u64.bits)))
                                                 (Go.IntKind.u32.wrap b) ==
                                               mk'
                                                 (Go.IntKind.u32.wrap
                                                   (b.fdiv (2 ^ Min.min (Int.toNat 32) Go.IntKind.u64.bits)))
                                                 (Go.IntKind.u32.wrap b)
                                           else Bool.false then
                                         df a b == df' a b
                                       else Bool.false then
                                     mv a d == mv' a d
                                   else Bool.false) ==
                                   Bool.true then
                               bif
                                   (bif
                                         bif
                                             bif bif Bool.true then mk (sc a) (pt a) == a else Bool.false then
                                               mk
                                                   (Go.IntKind.u32.wrap
                                                     (b.fdiv (2 ^ Min.min (Int.toNat 32) Go.IntKind.u64.bits)))
                                                   (Go.IntKind.u32.wrap b) ==
                                                 mk'
                                                   (Go.IntKind.u32.wrap
                                                     (b.fdiv (2 ^ Min.min (Int.toNat 32) Go.IntKind.u64.bits)))
                                                   (Go.IntKind.u32.wrap b)
                                             else Bool.false then
                                           df a b == df' a b
                                         else Bool.false then
                                       mv a d == mv' a d
                                     else Bool.false) ==
                                     Bool.true then
                                 Option.some
                                   (Go.Im.IV.bool
                                       (bif
                                           bif
                                               bif
                                                   bif bif Bool.true then mk (sc a) (pt a) == a else Bool.false then
                                                     mk
                                                         (Go.IntKind.u32.wrap
                                                           (b.fdiv (2 ^ Min.min (Int.toNat 32) Go.IntKind.u64.bits)))
                                                         (Go.IntKind.u32.wrap b) ==
                                                       mk'
                                                         (Go.IntKind.u32.wrap
                                                           (b.fdiv (2 ^ Min.min (Int.toNat 32) Go.IntKind.u64.bits)))
                                                         (Go.IntKind.u32.wrap b)
                                                   else Bool.false then
                                                 df a b == df' a b
                                               else Bool.false then
                                             mv a d == mv' a d
                                           else Bool.false then
                                         Decidable.decide (df a b < 0) == Decidable.decide (df' a b < 0)
                                       else Bool.false),
                                     [])
                               else
                                 bif
                                     (bif
                                           bif
                                               bif bif Bool.true then mk (sc a) (pt a) == a else Bool.false then
                                                 mk
                                                     (Go.IntKind.u32.wrap
                                                       (b.fdiv (2 ^ Min.min (Int.toNat 32) Go.IntKind.u64.bits)))
                                                     (Go.IntKind.u32.wrap b) ==
                                                   mk'
                                                     (Go.IntKind.u32.wrap
                                                       (b.fdiv (2 ^ Min.min (Int.toNat 32) Go.IntKind.u64.bits)))
                                                     (Go.IntKind.u32.wrap b)
                                               else Bool.false then
                                             df a b == df' a b
                                           else Bool.false then
                                         mv a d == mv' a d
                                       else Bool.false) ==
                                       Bool.true then
                                   Option.none
                                 else
                                   bif
                                       (bif
                                             bif
                                                 bif bif Bool.true then mk (sc a) (pt a) == a else Bool.false then
                                                   mk
                                                       (Go.IntKind.u32.wrap
                                                         (b.fdiv (2 ^ Min.min (Int.toNat 32) Go.IntKind.u64.bits)))
                                                       (Go.IntKind.u32.wrap b) ==
                                                     mk'
                                                       (Go.IntKind.u32.wrap
                                                         (b.fdiv (2 ^ Min.min (Int.toNat 32) Go.IntKind.u64.bits)))
                                                       (Go.IntKind.u32.wrap b)
                                                 else Bool.false then
                                               df a b == df' a b
                                             else Bool.false then
                                           mv a d == mv' a d
                                         else Bool.false) ==
                                         Bool.true then
                                     Option.none
                                   else
                                     bif
                                         bif
                                             bif
                                                 bif bif Bool.true then mk (sc a) (pt a) == a else Bool.false then
                                                   mk
                                                       (Go.IntKind.u32.wrap
                                                         (b.fdiv (2 ^ Min.min (Int.toNat 32) Go.IntKind.u64.bits)))
                                                       (Go.IntKind.u32.wrap b) ==
                                                     mk'
                                                       (Go.IntKind.u32.wrap
                                                         (b.fdiv (2 ^ Min.min (Int.toNat 32) Go.IntKind.u64.bits)))
                                                       (Go.IntKind.u32.wrap b)
                                                 else Bool.false then
                                               df a b == df' a b
                                             else Bool.false then
                                           mv a d == mv' a d
                                         else Bool.false then
                                       Option.some (Go.Im.IV.tup [], [])
                                     else Option.some (Go.Im.IV.bool Bool.false, [])
                             else
                               bif
                                   (bif
                                         bif
                                             bif bif Bool.true then mk (sc a) (pt a) == a else Bool.false then
                                               mk
                                                   (Go.IntKind.u32.wrap
                                                     (b.fdiv (2 ^ Min.min (Int.toNat 32) Go.IntKind.u64.bits)))
                                                   (Go.IntKind.u32.wrap b) ==
                                                 mk'
                                                   (Go.IntKind.u32.wrap
                                                     (b.fdiv (2 ^ Min.min (Int.toNat 32) Go.IntKind.u64.bits)))
                                                   (Go.IntKind.u32.wrap b)
                                             else Bool.false then
                                           df a b == df' a b
                                         else Bool.false then
                                       mv a d == mv' a d
                                     else Bool.false) ==
                                     Bool.true then
                                 bif
                                     (bif
                                           bif
                                               bif bif Bool.true then mk (sc a) (pt a) == a else Bool.false then
                                                 mk
                                                     (Go.IntKind.u32.wrap
                                                       (b.fdiv (2 ^ Min.min (Int.toNat 32) Go.IntKind.u64.bits)))
                                                     (Go.IntKind.u32.wrap b) ==
                                                   mk'
                                                     (Go.IntKind.u32.wrap
                                                       (b.fdiv (2 ^ Min.min (Int.toNat 32) Go.IntKind.u64.bits)))
                                                     (Go.IntKind.u32.wrap b)
                                               else Bool.false then
                                             df a b == df' a b
                                           else Bool.false then
                                         mv a d == mv' a d
                                       else Bool.false) ==
                                       Bool.true then
                                   Option.none
                                 else
                                   bif
                                       bif
                                           bif
                                               bif bif Bool.true then mk (sc a) (pt a) == a else Bool.false then
                                                 mk
                                                     (Go.IntKind.u32.wrap
                                                       (b.fdiv (2 ^ Min.min (Int.toNat 32) Go.IntKind.u64.bits)))
                                                     (Go.IntKind.u32.wrap b) ==
                                                   mk'
                                                     (Go.IntKind.u32.wrap
                                                       (b.fdiv (2 ^ Min.min (Int.toNat 32) Go.IntKind.u64.bits)))
                                                     (Go.IntKind.u32.wrap b)
                                               else Bool.false then
                                             df a b == df' a b
                                           else Bool.false then
                                         mv a d == mv' a d
                                       else Bool.false then
                                     Option.some (Go.Im.IV.tup [], [])
                                   else Option.some (Go.Im.IV.bool Bool.false, [])
                               else
                                 bif
                                     (bif
                                           bif
                                               bif bif Bool.true then mk (sc a) (pt a) == a else Bool.false then
                                                 mk
                                                     (Go.IntKind.u32.wrap
                                                       (b.fdiv (2 ^ Min.min (Int.toNat 32) Go.IntKind.u64.bits)))
                                                     (Go.IntKind.u32.wrap b) ==
                                                   mk'
                                                     (Go.IntKind.u32.wrap
                                                       (b.fdiv (2 ^ Min.min (Int.toNat 32) Go.IntKind.u64.bits)))
                                                     (Go.IntKind.u32.wrap b)
                                               else Bool.false then
                                             df a b == df' a b
                                           else Bool.false then
                                         mv a d == mv' a d
                                       else Bool.false) ==
                                       Bool.true then
                                   Option.none
                                 else
                                   bif
                                       (bif
                                             bif
                                                 bif bif Bool.true then mk (sc a) (pt a) == a else Bool.false then
                                                   mk
                                                       (Go.IntKind.u32.wrap
                                                         (b.fdiv (2 ^ Min.min (Int.toNat 32) Go.IntKind.u64.bits)))
                                                       (Go.IntKind.u32.wrap b) ==
                                                     mk'
                                                       (Go.IntKind.u32.wrap
                                                         (b.fdiv (2 ^ Min.min (Int.toNat 32) Go.IntKind.u64.bits)))
                                                       (Go.IntKind.u32.wrap b)
                                                 else Bool.false then
                                               df a b == df' a b
                                             else Bool.false then
                                           mv a d == mv' a d
                                         else Bool.false) ==
                                         Bool.true then
                                     Option.none
                                   else
                                     bif
                                         bif
                                             bif
                                                 bif bif Bool.true then mk (sc a) (pt a) == a else Bool.false then
                                                   mk
                                                       (Go.IntKind.u32.wrap
                                                         (b.fdiv (2 ^ Min.min (Int.toNat 32) Go.IntKind.u64.bits)))
                                                       (Go.IntKind.u32.wrap b) ==
                                                     mk'
                                                       (Go.IntKind.u32.wrap
                                                         (b.fdiv (2 ^ Min.min (Int.toNat 32) Go.IntKind.u64.bits)))
                                                       (Go.IntKind.u32.wrap b)
                                                 else Bool.false then
                                               df a b == df' a b
                                             else Bool.false then
                                           mv a d == mv' a d
                                         else Bool.false then
                                       Option.some (Go.Im.IV.tup [], [])
                                     else Option.some (Go.Im.IV.bool Bool.false, [])
                           else Option.none
                         else
                           bif
                               (bif
                                     bif bif Bool.true then mk (sc a) (pt a) == a else Bool.false then
                                       mk (Go.IntKind.u32.wrap (b.fdiv (2 ^ Min.min (Int.toNat 32) Go.IntKind.u64.bits)))
                                           (Go.IntKind.u32.wrap b) ==
                                         mk'
                                           (Go.IntKind.u32.wrap (b.fdiv (2 ^ Min.min (Int.toNat 32) Go.IntKind.u64.bits)))
                                           (Go.IntKind.u32.wrap b)
                                     else Bool.false then
                                   df a b == df' a b
                                 else Bool.false) ==
                                 Bool.true then
                             Option.none
                           else
                             bif
                                 bif
                                     bif bif Bool.true then mk (sc a) (pt a) == a else Bool.false then
                                       mk (Go.IntKind.u32.wrap (b.fdiv (2 ^ Min.min (Int.toNat 32) Go.IntKind.u64.bits)))
                                           (Go.IntKind.u32.wrap b) ==
                                         mk'
                                           (Go.IntKind.u32.wrap (b.fdiv (2 ^ Min.min (Int.toNat 32) Go.IntKind.u64.bits)))
                                           (Go.IntKind.u32.wrap b)
                                     else Bool.false then
                                   df a b == df' a b
                                 else Bool.false then
                               Option.none
                             else Option.some (Go.Im.IV.bool Bool.false, [])
                       else
                         bif
                             (bif
                                   bif bif Bool.true then mk (sc a) (pt a) == a else Bool.false then
                                     mk (Go.IntKind.u32.wrap (b.fdiv (2 ^ Min.min (Int.toNat 32) Go.IntKind.u64.bits)))
                                         (Go.IntKind.u32.wrap b) ==
                                       mk' (Go.IntKind.u32.wrap (b.fdiv (2 ^ Min.min (Int.toNat 32) Go.IntKind.u64.bits)))
                                         (Go.IntKind.u32.wrap b)
                                   else Bool.false then
                                 df a b == df' a b
                               else Bool.false) ==
                               Bool.true then
                           bif Go.Proofs.YthnleapnhkkeoaaDoor.in64 d then
                             bif
                                 (bif
                                       bif bif Bool.true then mk (sc a) (pt a) == a else Bool.false then
                                         mk (Go.IntKind.u32.wrap (b.fdiv (2 ^ Min.min (Int.toNat 32) Go.IntKind.u64.bits)))
                                             (Go.IntKind.u32.wrap b) ==
                                           mk'
                                             (Go.IntKind.u32.wrap
                                               (b.fdiv (2 ^ Min.min (Int.toNat 32) Go.IntKind.u64.bits)))
                                             (Go.IntKind.u32.wrap b)
                                       else Bool.false then
                                     df a b == df' a b
                                   else Bool.false) ==
                                   Bool.true then
                               Option.none
                             else
                               bif
                                   bif
                                       bif bif Bool.true then mk (sc a) (pt a) == a else Bool.false then
                                         mk (Go.IntKind.u32.wrap (b.fdiv (2 ^ Min.min (Int.toNat 32) Go.IntKind.u64.bits)))
                                             (Go.IntKind.u32.wrap b) ==
                                           mk'
                                             (Go.IntKind.u32.wrap
                                               (b.fdiv (2 ^ Min.min (Int.toNat 32) Go.IntKind.u64.bits)))
                                             (Go.IntKind.u32.wrap b)
                                       else Bool.false then
                                     df a b == df' a b
                                   else Bool.false then
                                 Option.none
                               else Option.some (Go.Im.IV.bool Bool.false, [])
                           else Option.none
                         else
                           bif
                               (bif
                                     bif bif Bool.true then mk (sc a) (pt a) == a else Bool.false then
                                       mk (Go.IntKind.u32.wrap (b.fdiv (2 ^ Min.min (Int.toNat 32) Go.IntKind.u64.bits)))
                                           (Go.IntKind.u32.wrap b) ==
                                         mk'
                                           (Go.IntKind.u32.wrap (b.fdiv (2 ^ Min.min (Int.toNat 32) Go.IntKind.u64.bits)))
                                           (Go.IntKind.u32.wrap b)
                                     else Bool.false then
                                   df a b == df' a b
                                 else Bool.false) ==
                                 Bool.true then
                             Option.none
                           else
                             bif
                                 bif
                                     bif bif Bool.true then mk (sc a) (pt a) == a else Bool.false then
                                       mk (Go.IntKind.u32.wrap (b.fdiv (2 ^ Min.min (Int.toNat 32) Go.IntKind.u64.bits)))
                                           (Go.IntKind.u32.wrap b) ==
                                         mk'
                                           (Go.IntKind.u32.wrap (b.fdiv (2 ^ Min.min (Int.toNat 32) Go.IntKind.u64.bits)))
                                           (Go.IntKind.u32.wrap b)
                                     else Bool.false then
                                   df a b == df' a b
                                 else Bool.false then
                               Option.none
                             else Option.some (Go.Im.IV.bool Bool.false, [])
                     else
                       bif
                           (bif bif Bool.true then mk (sc a) (pt a) == a else Bool.false then
                               mk (Go.IntKind.u32.wrap (b.fdiv (2 ^ Min.min (Int.toNat 32) Go.IntKind.u64.bits)))
                                   (Go.IntKind.u32.wrap b) ==
                                 mk' (Go.IntKind.u32.wrap (b.fdiv (2 ^ Min.min (Int.toNat 32) Go.IntKind.u64.bits)))
                                   (Go.IntKind.u32.wrap b)
                             else Bool.false) ==
                             Bool.true then
                         Option.none
                       else
                         bif
                             bif bif Bool.true then mk (sc a) (pt a) == a else Bool.false then
                               mk (Go.IntKind.u32.wrap (b.fdiv (2 ^ Min.min (Int.toNat 32) Go.IntKind.u64.bits)))
                                   (Go.IntKind.u32.wrap b) ==
                                 mk' (Go.IntKind.u32.wrap (b.fdiv (2 ^ Min.min (Int.toNat 32) Go.IntKind.u64.bits)))
                                   (Go.IntKind.u32.wrap b)
                             else Bool.false then
                           Option.none
                         else Option.some (Go.Im.IV.bool Bool.false, [])
                   else
                     bif
                         (bif bif Bool.true then mk (sc a) (pt a) == a else Bool.false then
                             mk (Go.IntKind.u32.wrap (b.fdiv (2 ^ Min.min (Int.toNat 32) Go.IntKind.u64.bits)))
                                 (Go.IntKind.u32.wrap b) ==
                               mk' (Go.IntKind.u32.wrap (b.fdiv (2 ^ Min.min (Int.toNat 32) Go.IntKind.u64.bits)))
                                 (Go.IntKind.u32.wrap b)
                           else Bool.false) ==
                           Bool.true then
                       bif
                           (bif bif Bool.true then mk (sc a) (pt a) == a else Bool.false then
                               mk (Go.IntKind.u32.wrap (b.fdiv (2 ^ Min.min (Int.toNat 32) Go.IntKind.u64.bits)))
                                   (Go.IntKind.u32.wrap b) ==
                                 mk' (Go.IntKind.u32.wrap (b.fdiv (2 ^ Min.min (Int.toNat 32) Go.IntKind.u64.bits)))
                                   (Go.IntKind.u32.wrap b)
                             else Bool.false) ==
                             Bool.true then
                         Option.none
                       else
                         bif
                             bif bif Bool.true then mk (sc a) (pt a) == a else Bool.false then
                               mk (Go.IntKind.u32.wrap (b.fdiv (2 ^ Min.min (Int.toNat 32) Go.IntKind.u64.bits)))
                                   (Go.IntKind.u32.wrap b) ==
                                 mk' (Go.IntKind.u32.wrap (b.fdiv (2 ^ Min.min (Int.toNat 32) Go.IntKind.u64.bits)))
                                   (Go.IntKind.u32.wrap b)
                             else Bool.false then
                           Option.none
                         else Option.some (Go.Im.IV.bool Bool.false, [])
                     else
                       bif
                           (bif bif Bool.true then mk (sc a) (pt a) == a else Bool.false then
                               mk (Go.IntKind.u32.wrap (b.fdiv (2 ^ Min.min (Int.toNat 32) Go.IntKind.u64.bits)))
                                   (Go.IntKind.u32.wrap b) ==
                                 mk' (Go.IntKind.u32.wrap (b.fdiv (2 ^ Min.min (Int.toNat 32) Go.IntKind.u64.bits)))
                                   (Go.IntKind.u32.wrap b)
                             else Bool.false) ==
                             Bool.true then
                         Option.none
                       else
                         bif
                             bif bif Bool.true then mk (sc a) (pt a) == a else Bool.false then
                               mk (Go.IntKind.u32.wrap (b.fdiv (2 ^ Min.min (Int.toNat 32) Go.IntKind.u64.bits)))
                                   (Go.IntKind.u32.wrap b) ==
                                 mk' (Go.IntKind.u32.wrap (b.fdiv (2 ^ Min.min (Int.toNat 32) Go.IntKind.u64.bits)))
                                   (Go.IntKind.u32.wrap b)
                             else Bool.false then
                           Option.none
                         else Option.some (Go.Im.IV.bool Bool.false, [])
                 else Option.none
               else
                 bif (bif Bool.true then mk (sc a) (pt a) == a else Bool.false) == Bool.true then Option.none
                 else
                   bif bif Bool.true then mk (sc a) (pt a) == a else Bool.false then Option.none
                   else Option.some (Go.Im.IV.bool Bool.false, [])
             else
               bif (bif Bool.true then mk (sc a) (pt a) == a else Bool.false) == Bool.true then Option.none
               else
                 bif (bif Bool.true then mk (sc a) (pt a) == a else Bool.false) == Bool.true then Option.none
                 else
                   bif (bif Bool.true then mk (sc a) (pt a) == a else Bool.false) == Bool.true then Option.none
                   else
                     bif bif Bool.true then mk (sc a) (pt a) == a else Bool.false then Option.none
                     else Option.some (Go.Im.IV.bool Bool.false, [])
           else Option.none
         else
           bif (bif Bool.true then mk (sc a) (pt a) == a else Bool.false) == Bool.true then
             bif (bif Bool.true then mk (sc a) (pt a) == a else Bool.false) == Bool.true then
               bif
                   Go.Proofs.YthnleapnhkkeoaaDoor.both32
                     (Go.IntKind.u32.wrap (b.fdiv (2 ^ Min.min (Int.toNat 32) Go.IntKind.u64.bits)))
                     (Go.IntKind.u32.wrap b) then
                 bif (bif Bool.true then mk (sc a) (pt a) == a else Bool.false) == Bool.true then Option.none
                 else
                   bif bif Bool.true then mk (sc a) (pt a) == a else Bool.false then Option.none
                   else Option.some (Go.Im.IV.bool Bool.false, [])
               else Option.none
             else
               bif (bif Bool.true then mk (sc a) (pt a) == a else Bool.false) == Bool.true then Option.none
               else
                 bif bif Bool.true then mk (sc a) (pt a) == a else Bool.false then Option.none
                 else Option.some (Go.Im.IV.bool Bool.false, [])
           else
             bif (bif Bool.true then mk (sc a) (pt a) == a else Bool.false) == Bool.true then Option.none
             else
               bif (bif Bool.true then mk (sc a) (pt a) == a else Bool.false) == Bool.true then Option.none
               else
                 bif (bif Bool.true then mk (sc a) (pt a) == a else Bool.false) == Bool.true then Option.none
                 else
                   bif bif Bool.true then mk (sc a) (pt a) == a else Bool.false then Option.none
                   else Option.some (Go.Im.IV.bool Bool.false, [])
       else
         bif (bif Bool.true then mk (sc a) (pt a) == a else Bool.false) == Bool.true then Option.none
         else
           bif (bif Bool.true then mk (sc a) (pt a) == a else Bool.false) == Bool.true then Option.none
           else
             bif (bif Bool.true then mk (sc a) (pt a) == a else Bool.false) == Bool.true then
               bif (bif Bool.true then mk (sc a) (pt a) == a else Bool.false) == Bool.true then
                 bif
                     Go.Proofs.YthnleapnhkkeoaaDoor.both32
                       (Go.IntKind.u32.wrap (b.fdiv (2 ^ Min.min (Int.toNat 32) Go.IntKind.u64.bits)))
                       (Go.IntKind.u32.wrap b) then
                   bif (bif Bool.true then mk (sc a) (pt a) == a else Bool.false) == Bool.true then Option.none
                   else
                     bif bif Bool.true then mk (sc a) (pt a) == a else Bool.false then Option.none
                     else Option.some (Go.Im.IV.bool Bool.false, [])
                 else Option.none
               else
                 bif (bif Bool.true then mk (sc a) (pt a) == a else Bool.false) == Bool.true then Option.none
                 else
                   bif bif Bool.true then mk (sc a) (pt a) == a else Bool.false then Option.none
                   else Option.some (Go.Im.IV.bool Bool.false, [])
             else
               bif (bif Bool.true then mk (sc a) (pt a) == a else Bool.false) == Bool.true then Option.none
               else
                 bif (bif Bool.true then mk (sc a) (pt a) == a else Bool.false) == Bool.true then Option.none
                 else
                   bif (bif Bool.true then mk (sc a) (pt a) == a else Bool.false) == Bool.true then Option.none
                   else
                     bif bif Bool.true then mk (sc a) (pt a) == a else Bool.false then Option.none
                     else Option.some (Go.Im.IV.bool Bool.false, [])
     else Option.none
   else Option.none) := by kernel_rfl

theorem tabZ_ok : ∀ f F, tabZ makeG makeG diffG diffG moveG moveG secG partG f = some F → Known Tryd.prog hint f F :=
  tab_cons alive_known (tab_cons make_known (tab_cons rmake_known (tab_cons sec_known (tab_cons part_known (tab_cons diff_known (tab_cons rdiff_known (tab_cons move_known (tab_cons rmove_known tab_nil))))))))

theorem args3 {P : Program} {ps : Array TypeId} {t0 t1 t2 : TypeId} (hp : ps = #[t0, t1, t2]) {xs : List IV} (hl : xs.length = ps.size) (h : ∀ (i : Nat) t, ps[i]? = some t → ∃ x, xs[i]? = some x ∧ ArgT P t x) :
    ∃ x0 x1 x2, xs = [x0, x1, x2] ∧ ArgT P t0 x0 ∧ ArgT P t1 x1 ∧ ArgT P t2 x2 := by
  subst hp
  obtain ⟨x0, h0, k0⟩ := h 0 t0 rfl
  obtain ⟨x1, h1, k1⟩ := h 1 t1 rfl
  obtain ⟨x2, h2, k2⟩ := h 2 t2 rfl
  match xs, hl, h0, h1, h2 with
  | [y0, y1, y2], _, h0, h1, h2 =>
    simp at h0 h1 h2
    subst h0 h1 h2
    exact ⟨_, _, _, rfl, k0, k1, k2⟩

theorem stampMoves_run (xs : List IV) (hl : xs.length = Tryd.f9.params.size) (h : ∀ (i : Nat) t, Tryd.f9.params[i]? = some t → ∃ x, xs[i]? = some x ∧ ArgT Tryd.prog t x) :
    ∃ k, acall Tryd.prog hint (ovrOf (tabZ makeG makeG diffG diffG moveG moveG secG partG)) k 9 xs [] = some (.bool true, []) := by
  obtain ⟨x0, x1, x2, rfl, h0, h1, h2⟩ := args3 Tryd.params9 hl h
  obtain ⟨a, rfl, a1, a2⟩ := arg_int Tryd.underlying22 h0
  obtain ⟨b, rfl, b1, b2⟩ := arg_int Tryd.underlying22 h1
  obtain ⟨d, rfl, d1, d2⟩ := arg_int Tryd.underlying2 h2
  simp only [range_u64, range_i64] at a1 a2 b1 b2 d1 d2
  refine law_run (n := 30) loops_none ((moves_tree _ _ _ _ _ _ _ _ a b d).trans ?_)
  have t1 : inu64 a = true := inu64_iff.2 ⟨a1, a2⟩
  have t2 : in64 d = true := in64_iff.2 ⟨d1, d2⟩
  have t3 : in32 (secG a) = true := in32_iff.2 (by simp only [secG]; omega)
  have t4 : in32 (partG a) = true := in32_iff.2 (by simp only [partG]; omega)
  have t5 : in32 (IntKind.u32.wrap (b.fdiv (2 ^ min (Int.toNat 32) IntKind.u64.bits))) = true := in32_iff.2 (by rw [wrap_u32]; omega)
  have t6 : in32 (IntKind.u32.wrap b) = true := in32_iff.2 (by rw [wrap_u32]; omega)
  have m1 : makeG (secG a) (partG a) = a := by simp only [makeG, secG, partG]; omega
  simp only [both32, t1, t2, t3, t4, t5, t6, m1, Bool.and_self, beq_self_eq_true, cond_true, cond_false, Bool.cond_self]

/-! ### Short times -/
abbrev shortG (x : Int) : Int := if x < 0 then 0 else if x / 65536 > 4294967295 then 4294967295 else x / 65536
theorem short_known : Known Tryd.prog hint 32 (F1 .i64 .u32 in64 shortG) := known1 tab_nil (n := 30) fun x h => by
  have e : C (tab []) 32 [.int .i64 x] = bif decide (x < 0) then some (IV.int IntKind.u32 0, [])
else some (IV.int IntKind.u32 (IntKind.u32.wrap (bif decide (4294967295 < x.fdiv 65536) then 4294967295 else x.fdiv 65536)), []) := by kernel_rfl
  refine e.trans ?_
  simp only [in64_iff] at h
  rw [fdiv_pos _ (by decide)]
  simp only [wrap_u32, Bool.cond_decide, shortG]
  split
  · rfl
  · congr 3
    split <;> omega
theorem rshort_known : Known Tryd.prog hint 33 (F1 .i64 .u32 in64 shortG) := known1 tab_nil (n := 30) fun x h => by
  have e : C (tab []) 33 [.int .i64 x] = bif decide (x < 0) then some (IV.int IntKind.u32 0, [])
else
  bif decide (IntKind.i64.wrap (x.tdiv 65536) > 4294967295) then some (IV.int IntKind.u32 4294967295, [])
  else some (IV.int IntKind.u32 (IntKind.u32.wrap (IntKind.i64.wrap (x.tdiv 65536))), []) := by kernel_rfl
  refine e.trans ?_
  simp only [in64_iff] at h
  simp only [Bool.cond_decide, shortG]
  split
  · rfl
  · have ht : x.tdiv 65536 = x / 65536 := by rw [tdiv_pos _ (by decide), if_pos (by omega)]
    have : IntKind.i64.wrap (x / 65536) = x / 65536 := by rw [wrap_i64]; omega
    rw [ht, this, wrap_u32]
    split
    · rfl
    · congr 3
      omega
abbrev longG (x : Int) : Int := IntKind.i64.wrap (IntKind.i64.wrap x * 65536)
theorem long_known : Known Tryd.prog hint 34 (F1 .u32 .i64 yes1 longG) := known1 tab_nil (n := 30) fun x h => by kernel_rfl
theorem rlong_known : Known Tryd.prog hint 35 (F1 .u32 .i64 yes1 longG) := known1 tab_nil (n := 30) fun x h => by kernel_rfl

def powG (p : Int) : Int := if 0 ≤ p ∧ p ≤ 17 then 2 ^ (32 + p.toNat) else 0
def errG (p : Int) : Int := if 0 ≤ p ∧ p ≤ 17 then 0 else 1
def pollF (pw er : Int → Int) : SpecF := fun xs T => match xs, T with
  | [.int .i64 p], [] => some (true, .tup [.int .i64 (pw p), .int .i64 (er p)], [])
  | _, _ => none
theorem poll_cases (p : Int) (h : 0 ≤ p ∧ p ≤ 17) : p = 0 ∨ p = 1 ∨ p = 2 ∨ p = 3 ∨ p = 4 ∨ p = 5 ∨ p = 6 ∨ p = 7 ∨ p = 8 ∨ p = 9 ∨ p = 10 ∨ p = 11 ∨ p = 12 ∨ p = 13 ∨ p = 14 ∨ p = 15 ∨ p = 16 ∨ p = 17 := by omega
theorem poll_out (p : Int) (h : ¬ (0 ≤ p ∧ p ≤ 17)) : (bif decide (p < 0) then true else decide (p > 17)) = true := by
  simp only [Bool.cond_decide]
  split
  · rfl
  · simp; omega
theorem poll_tree (p : Int) : callK Tryd.prog hint (tab []) (fun _ _ => none) 2 30 [.int .i64 p] [] (fun v T => some (v, T)) =
  (bif bif Decidable.decide (p < 0) then Bool.true else Decidable.decide (p > 17) then
     Option.some (Go.Im.IV.tup [Go.Im.IV.int Go.IntKind.i64 0, Go.Im.IV.int Go.IntKind.i64 1], [])
   else
     bif Decidable.decide (0 ≤ Go.IntKind.i64.wrap (32 + p)) then
       Option.some
         (Go.Im.IV.tup
             [Go.Im.IV.int Go.IntKind.i64
                 (Go.IntKind.i64.wrap (1 * 2 ^ Min.min (Go.IntKind.i64.wrap (32 + p)).toNat Go.IntKind.i64.bits)),
               Go.Im.IV.int Go.IntKind.i64 0],
           [])
     else Option.none) := by kernel_rfl
theorem rpoll_tree (p : Int) : callK Tryd.prog hint (tab []) (fun _ _ => none) 2 31 [.int .i64 p] [] (fun v T => some (v, T)) =
  (bif bif Decidable.decide (p < 0) then Bool.true else Decidable.decide (p > 17) then
     Option.some (Go.Im.IV.tup [Go.Im.IV.int Go.IntKind.i64 0, Go.Im.IV.int Go.IntKind.i64 1], [])
   else
     bif Decidable.decide (0 < p) then Option.none
     else Option.some (Go.Im.IV.tup [Go.Im.IV.int Go.IntKind.i64 4294967296, Go.Im.IV.int Go.IntKind.i64 0], [])) := by kernel_rfl
theorem poll_known : Known Tryd.prog hint 30 (pollF powG errG) := by
  refine known_of fits (spec := tab []) tab_nil loops_none ?_
  intro xs T v T1 e
  unfold pollF at e
  split at e
  · rename_i p
    cases e
    by_cases h : 0 ≤ p ∧ p ≤ 17
    · refine ⟨30, ?_⟩
      rcases poll_cases p h with h | h | h | h | h | h | h | h | h | h | h | h | h | h | h | h | h | h <;> subst h <;> kernel_rfl
    · refine ⟨2, (poll_tree p).trans ?_⟩
      rw [poll_out p h, powG, errG, if_neg h, if_neg h]
      rfl
  · cases e
theorem rpoll_known : Known Tryd.prog hint 31 (pollF powG errG) := by
  refine known_of fits (spec := tab []) tab_nil loops_none ?_
  intro xs T v T1 e
  unfold pollF at e
  split at e
  · rename_i p
    cases e
    by_cases h : 0 ≤ p ∧ p ≤ 17
    · refine ⟨30, ?_⟩
      rcases poll_cases p h with h | h | h | h | h | h | h | h | h | h | h | h | h | h | h | h | h | h <;> subst h <;> kernel_rfl
    · refine ⟨2, (rpoll_tree p).trans ?_⟩
      rw [poll_out p h, powG, errG, if_neg h, if_neg h]
      rfl
  · cases e

abbrev tabW (s s' l l' : Int → Int) (pw er pw' er' : Int → Int) : FuncId → Option SpecF := tab [(11, aliveF), (32, F1 .i64 .u32 in64 s), (33, F1 .i64 .u32 in64 s'), (34, F1 .u32 .i64 yes1 l), (35, F1 .u32 .i64 yes1 l'), (30, pollF pw er), (31, pollF pw' er')]
theorem shorts_tree (s s' l l' : Int → Int) (pw er pw' er' : Int → Int) (d k p : Int) : C (tabW s s' l l' pw er pw' er') 10 [.int .i64 d, .int .u32 k, .int .i64 p] =
  (bif Go.Proofs.YthnleapnhkkeoaaDoor.in64 d then
     bif Go.Proofs.YthnleapnhkkeoaaDoor.in64 d then
       bif (bif Bool.true then s d == s' d else Bool.false) == Bool.true then
         bif (bif Bool.true then s d == s' d else Bool.false) == Bool.true then
           Option.some
             (Go.Im.IV.bool
                 (bif
                     bif bif bif Bool.true then s d == s' d else Bool.false then l k == l' k else Bool.false then
                       pw p == pw' p
                     else Bool.false then
                   er p == er' p
                 else Bool.false),
               [])
         else
           bif (bif Bool.true then s d == s' d else Bool.false) == Bool.true then Option.none
           else
             bif bif Bool.true then s d == s' d else Bool.false then Option.none
             else Option.some (Go.Im.IV.bool Bool.false, [])
       else
         bif (bif Bool.true then s d == s' d else Bool.false) == Bool.true then
           bif (bif Bool.true then s d == s' d else Bool.false) == Bool.true then Option.none
           else
             bif bif Bool.true then s d == s' d else Bool.false then Option.none
             else Option.some (Go.Im.IV.bool Bool.false, [])
         else
           bif (bif Bool.true then s d == s' d else Bool.false) == Bool.true then Option.none
           else
             bif bif Bool.true then s d == s' d else Bool.false then Option.none
             else Option.some (Go.Im.IV.bool Bool.false, [])
     else Option.none
   else Option.none) := by kernel_rfl
theorem tabW_ok : ∀ f F, tabW shortG shortG longG longG powG errG powG errG f = some F → Known Tryd.prog hint f F :=
  tab_cons alive_known (tab_cons short_known (tab_cons rshort_known (tab_cons long_known (tab_cons rlong_known (tab_cons poll_known (tab_cons rpoll_known tab_nil))))))
theorem stampShorts_run (xs : List IV) (hl : xs.length = Tryd.f10.params.size) (h : ∀ (i : Nat) t, Tryd.f10.params[i]? = some t → ∃ x, xs[i]? = some x ∧ ArgT Tryd.prog t x) :
    ∃ k, acall Tryd.prog hint (ovrOf (tabW shortG shortG longG longG powG errG powG errG)) k 10 xs [] = some (.bool true, []) := by
  obtain ⟨x0, x1, x2, rfl, h0, h1, h2⟩ := args3 Tryd.params10 hl h
  obtain ⟨d, rfl, d1, d2⟩ := arg_int Tryd.underlying2 h0
  obtain ⟨k, rfl, k1, k2⟩ := arg_int Tryd.underlying38 h1
  obtain ⟨p, rfl, p1, p2⟩ := arg_int Tryd.underlying3 h2
  simp only [range_i64] at d1 d2
  refine law_run (n := 30) loops_none ((shorts_tree _ _ _ _ _ _ _ _ d k p).trans ?_)
  have t2 : in64 d = true := in64_iff.2 ⟨d1, d2⟩
  simp only [t2, Bool.and_self, beq_self_eq_true, cond_true, cond_false, Bool.cond_self]
end Go.Proofs.YthnleapnhkkeoaaDoor
