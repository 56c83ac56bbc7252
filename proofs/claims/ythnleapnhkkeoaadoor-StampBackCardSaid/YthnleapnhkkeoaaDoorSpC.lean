/- What Print and the reference's Print answer. It bears no condition. -/
import Derived.Test.YthnleapnhkkeoaaDoorSpB
-- BYTES bytsC
namespace Go.Proofs.YthnleapnhkkeoaaDoor
open Go Go.Im
set_option linter.unusedVariables false
set_option linter.unusedSimpArgs false

/-! ### Bits -/
theorem ior32 {a b : Nat} (ha : a < 4294967296) (hb : b < 4294967296) : ibits .or .u64 ((a * 4294967296 : Nat) : Int) (b : Int) = ((a * 4294967296 + b : Nat) : Int) := by
  show IntKind.u64.wrap (((BitVec.ofInt 64 ((a * 4294967296 : Nat) : Int)) ||| (BitVec.ofInt 64 (b : Int))).toNat : Int) = _
  have a1 : (BitVec.ofInt 64 ((a * 4294967296 : Nat) : Int)).toNat = 2 ^ 32 * a := by rw [BitVec.toNat_ofInt]; omega
  have a2 : (BitVec.ofInt 64 (b : Int)).toNat = b := by rw [BitVec.toNat_ofInt]; omega
  rw [BitVec.toNat_or, a1, a2, ← Nat.two_pow_add_eq_or_of_lt (by omega), wrap_u64]
  omega
theorem and32 {a : Nat} (ha : a < 18446744073709551616) : ibits .and .u64 (a : Int) 4294967295 = ((a % 4294967296 : Nat) : Int) := by
  show IntKind.u64.wrap (((BitVec.ofInt 64 (a : Int)) &&& (BitVec.ofInt 64 4294967295)).toNat : Int) = _
  have a1 : (BitVec.ofInt 64 (a : Int)).toNat = a := by rw [BitVec.toNat_ofInt]; omega
  have a2 : (BitVec.ofInt 64 4294967295).toNat = 2 ^ 32 - 1 := by decide
  rw [BitVec.toNat_and, a1, a2, Nat.and_two_pow_sub_one_eq_mod, wrap_u64]
  omega

/-! ### The parts' ten digits -/
def mulF : SpecF := fun xs T => match xs, T with
  | [.int .u64 x, .int .u64 y], [] => [(decide (0 ≤ x ∧ x < 4294967296 ∧ y = 10000000000), .tup [.int .u64 (x * 10000000000 / 18446744073709551616), .int .u64 (x * 10000000000 % 18446744073709551616)], [])]
  | _, _ => []
theorem mul_tree (x y : Int) : C (tab []) 44 [.int .u64 x, .int .u64 y] =
  (some
     (IV.tup
         [IV.int IntKind.u64
             (IntKind.u64.wrap
               (IntKind.u64.wrap
                   (IntKind.u64.wrap (x.fdiv ((2 : Int) ^ (32 : Nat)) * y.fdiv ((2 : Int) ^ (32 : Nat))) +
                     (IntKind.u64.wrap
                           (IntKind.u64.wrap
                               (x.fdiv ((2 : Int) ^ (32 : Nat)) * ibits BinOp.and IntKind.u64 y (4294967295 : Int)) +
                             (IntKind.u64.wrap
                                   (ibits BinOp.and IntKind.u64 x (4294967295 : Int) *
                                     ibits BinOp.and IntKind.u64 y (4294967295 : Int))).fdiv
                               ((2 : Int) ^ (32 : Nat)))).fdiv
                       ((2 : Int) ^ (32 : Nat))) +
                 (IntKind.u64.wrap
                       (ibits BinOp.and IntKind.u64
                           (IntKind.u64.wrap
                             (IntKind.u64.wrap
                                 (x.fdiv ((2 : Int) ^ (32 : Nat)) * ibits BinOp.and IntKind.u64 y (4294967295 : Int)) +
                               (IntKind.u64.wrap
                                     (ibits BinOp.and IntKind.u64 x (4294967295 : Int) *
                                       ibits BinOp.and IntKind.u64 y (4294967295 : Int))).fdiv
                                 ((2 : Int) ^ (32 : Nat))))
                           (4294967295 : Int) +
                         IntKind.u64.wrap
                           (ibits BinOp.and IntKind.u64 x (4294967295 : Int) * y.fdiv ((2 : Int) ^ (32 : Nat))))).fdiv
                   ((2 : Int) ^ (32 : Nat)))),
           IV.int IntKind.u64 (IntKind.u64.wrap (x * y))],
       [])) := by kernel_rfl
theorem mul_known : Known Tryd.prog hint 44 mulF := by
  refine known_of fits (spec := tab []) tab_nil loops_none ?_
  intro xs T v T1 h
  unfold mulF at h
  split at h
  · rename_i x y
    simp only [List.mem_cons, List.not_mem_nil, or_false, Prod.mk.injEq, Bool.true_eq, decide_eq_true_eq] at h
    obtain ⟨⟨h1, h2, rfl⟩, rfl, rfl⟩ := h
    obtain ⟨m, rfl⟩ : ∃ m : Nat, x = m := ⟨x.toNat, by omega⟩
    refine ⟨30, (mul_tree _ _).trans ?_⟩
    have e0 : Int.fdiv (10000000000 : Int) ((2 : Int) ^ (32 : Nat)) = ((2 : Nat) : Int) := by decide
    have e1 : ibits BinOp.and IntKind.u64 (10000000000 : Int) (4294967295 : Int) = ((1410065408 : Nat) : Int) := by decide
    have e2 : ((m / 4294967296 : Nat) : Int) = ((0 : Nat) : Int) := by omega
    have m1 : ∀ a b : Nat, (a : Int) * (b : Int) = ((a * b : Nat) : Int) := fun a b => by simp
    have m2 : ∀ a b : Nat, (a : Int) + (b : Int) = ((a + b : Nat) : Int) := fun a b => by simp
    have e4 : (m : Int) * 10000000000 = ((m * 10000000000 : Nat) : Int) := by simp
    simp (disch := omega) only [e0, e1, e2, e4, n_sh32, and32, n_u64, m1, m2]
    have c : ∀ {a b c d : Int}, a = c → b = d → some (IV.tup [IV.int .u64 a, IV.int .u64 b], ([] : List Blk)) = some (IV.tup [IV.int .u64 c, IV.int .u64 d], []) := by
      rintro _ _ _ _ rfl rfl; rfl
    have s1 : m % 4294967296 * 1410065408 % 18446744073709551616 = m * 1410065408 := by omega
    obtain ⟨Y, hY⟩ : ∃ Y, Y = m * 1410065408 / 4294967296 := ⟨_, rfl⟩
    have hY2 : Y < 4294967296 := by omega
    have hQ : m * 10000000000 / 18446744073709551616 = (Y + 2 * m) / 4294967296 := by omega
    refine c ?_ (by omega)
    have s2 : (0 * 1410065408 % 18446744073709551616 + Y) % 18446744073709551616 = Y := by omega
    have s3 : Y / 4294967296 = 0 := by omega
    have s4 : Y % 4294967296 = Y := by omega
    have s5 : m % 4294967296 * 2 % 18446744073709551616 = 2 * m := by omega
    have s6 : (Y + 2 * m) % 18446744073709551616 = Y + 2 * m := by omega
    rw [s1, ← hY, s2, s3, s4, s5, s6]
    have e5 : ((m * 10000000000 : Nat) : Int) / 18446744073709551616 = ((m * 10000000000 / 18446744073709551616 : Nat) : Int) := by omega
    rw [e5, hQ]
    have hZ : (Y + 2 * m) / 4294967296 < 18446744073709551616 := by omega
    generalize (Y + 2 * m) / 4294967296 = Z at *
    omega
  · cases h
def prN (p : Nat) : Nat := p * 10000000000 / 4294967296
theorem prN_lt {p : Nat} (h : p < 4294967296) : prN p < 10000000000 := by unfold prN; omega
def dI (k : Nat) (x : Int) : Int := ((48 + prN x.toNat / 10 ^ k % 10 : Nat) : Int)
def tenF (d : Nat → Int → Int) : SpecF := fun xs T => match xs, T with
  | [.int .u32 x], [] => [(decide (0 ≤ x ∧ x < 4294967296), .agg [.int .u8 (d 9 x), .int .u8 (d 8 x), .int .u8 (d 7 x), .int .u8 (d 6 x), .int .u8 (d 5 x), .int .u8 (d 4 x), .int .u8 (d 3 x), .int .u8 (d 2 x), .int .u8 (d 1 x), .int .u8 (d 0 x)], [])]
  | _, _ => []
theorem ten_tree (x : Int) : C (tab [(44, mulF)]) 39 [.int .u32 x] =
  (bif
       decide
         ((0 : Int) ≤ IntKind.u64.wrap x ∧
           IntKind.u64.wrap x < (4294967296 : Int) ∧ (10000000000 : Int) = (10000000000 : Int)) then
     some
       (IV.agg
           [IV.int IntKind.u8
               (IntKind.u8.wrap
                 (IntKind.u64.wrap
                   ((48 : Int) +
                     (IntKind.u64.wrap
                           ((IntKind.u64.wrap
                                 ((IntKind.u64.wrap
                                       ((IntKind.u64.wrap
                                             ((IntKind.u64.wrap
                                                   ((IntKind.u64.wrap
                                                         ((IntKind.u64.wrap
                                                               ((IntKind.u64.wrap
                                                                     ((IntKind.u64.wrap
                                                                           ((ibits BinOp.or IntKind.u64
                                                                                 (IntKind.u64.wrap
                                                                                   (IntKind.u64.wrap x *
                                                                                         (10000000000 : Int) /
                                                                                       (18446744073709551616 : Int) *
                                                                                     (2 : Int) ^ (32 : Nat)))
                                                                                 ((IntKind.u64.wrap x *
                                                                                         (10000000000 : Int) %
                                                                                       (18446744073709551616 : Int)).fdiv
                                                                                   ((2 : Int) ^ (32 : Nat)))).tdiv
                                                                             (10 : Int))).tdiv
                                                                       (10 : Int))).tdiv
                                                                 (10 : Int))).tdiv
                                                           (10 : Int))).tdiv
                                                     (10 : Int))).tdiv
                                               (10 : Int))).tdiv
                                         (10 : Int))).tdiv
                                   (10 : Int))).tdiv
                             (10 : Int))).tmod
                       (10 : Int)))),
             IV.int IntKind.u8
               (IntKind.u8.wrap
                 (IntKind.u64.wrap
                   ((48 : Int) +
                     (IntKind.u64.wrap
                           ((IntKind.u64.wrap
                                 ((IntKind.u64.wrap
                                       ((IntKind.u64.wrap
                                             ((IntKind.u64.wrap
                                                   ((IntKind.u64.wrap
                                                         ((IntKind.u64.wrap
                                                               ((IntKind.u64.wrap
                                                                     ((ibits BinOp.or IntKind.u64
                                                                           (IntKind.u64.wrap
                                                                             (IntKind.u64.wrap x * (10000000000 : Int) /
                                                                                 (18446744073709551616 : Int) *
                                                                               (2 : Int) ^ (32 : Nat)))
                                                                           ((IntKind.u64.wrap x * (10000000000 : Int) %
                                                                                 (18446744073709551616 : Int)).fdiv
                                                                             ((2 : Int) ^ (32 : Nat)))).tdiv
                                                                       (10 : Int))).tdiv
                                                                 (10 : Int))).tdiv
                                                           (10 : Int))).tdiv
                                                     (10 : Int))).tdiv
                                               (10 : Int))).tdiv
                                         (10 : Int))).tdiv
                                   (10 : Int))).tdiv
                             (10 : Int))).tmod
                       (10 : Int)))),
             IV.int IntKind.u8
               (IntKind.u8.wrap
                 (IntKind.u64.wrap
                   ((48 : Int) +
                     (IntKind.u64.wrap
                           ((IntKind.u64.wrap
                                 ((IntKind.u64.wrap
                                       ((IntKind.u64.wrap
                                             ((IntKind.u64.wrap
                                                   ((IntKind.u64.wrap
                                                         ((IntKind.u64.wrap
                                                               ((ibits BinOp.or IntKind.u64
                                                                     (IntKind.u64.wrap
                                                                       (IntKind.u64.wrap x * (10000000000 : Int) /
                                                                           (18446744073709551616 : Int) *
                                                                         (2 : Int) ^ (32 : Nat)))
                                                                     ((IntKind.u64.wrap x * (10000000000 : Int) %
                                                                           (18446744073709551616 : Int)).fdiv
                                                                       ((2 : Int) ^ (32 : Nat)))).tdiv
                                                                 (10 : Int))).tdiv
                                                           (10 : Int))).tdiv
                                                     (10 : Int))).tdiv
                                               (10 : Int))).tdiv
                                         (10 : Int))).tdiv
                                   (10 : Int))).tdiv
                             (10 : Int))).tmod
                       (10 : Int)))),
             IV.int IntKind.u8
               (IntKind.u8.wrap
                 (IntKind.u64.wrap
                   ((48 : Int) +
                     (IntKind.u64.wrap
                           ((IntKind.u64.wrap
                                 ((IntKind.u64.wrap
                                       ((IntKind.u64.wrap
                                             ((IntKind.u64.wrap
                                                   ((IntKind.u64.wrap
                                                         ((ibits BinOp.or IntKind.u64
                                                               (IntKind.u64.wrap
                                                                 (IntKind.u64.wrap x * (10000000000 : Int) /
                                                                     (18446744073709551616 : Int) *
                                                                   (2 : Int) ^ (32 : Nat)))
                                                               ((IntKind.u64.wrap x * (10000000000 : Int) %
                                                                     (18446744073709551616 : Int)).fdiv
                                                                 ((2 : Int) ^ (32 : Nat)))).tdiv
                                                           (10 : Int))).tdiv
                                                     (10 : Int))).tdiv
                                               (10 : Int))).tdiv
                                         (10 : Int))).tdiv
                                   (10 : Int))).tdiv
                             (10 : Int))).tmod
                       (10 : Int)))),
             IV.int IntKind.u8
               (IntKind.u8.wrap
                 (IntKind.u64.wrap
                   ((48 : Int) +
                     (IntKind.u64.wrap
                           ((IntKind.u64.wrap
                                 ((IntKind.u64.wrap
                                       ((IntKind.u64.wrap
                                             ((IntKind.u64.wrap
                                                   ((ibits BinOp.or IntKind.u64
                                                         (IntKind.u64.wrap
                                                           (IntKind.u64.wrap x * (10000000000 : Int) /
                                                               (18446744073709551616 : Int) *
                                                             (2 : Int) ^ (32 : Nat)))
                                                         ((IntKind.u64.wrap x * (10000000000 : Int) %
                                                               (18446744073709551616 : Int)).fdiv
                                                           ((2 : Int) ^ (32 : Nat)))).tdiv
                                                     (10 : Int))).tdiv
                                               (10 : Int))).tdiv
                                         (10 : Int))).tdiv
                                   (10 : Int))).tdiv
                             (10 : Int))).tmod
                       (10 : Int)))),
             IV.int IntKind.u8
               (IntKind.u8.wrap
                 (IntKind.u64.wrap
                   ((48 : Int) +
                     (IntKind.u64.wrap
                           ((IntKind.u64.wrap
                                 ((IntKind.u64.wrap
                                       ((IntKind.u64.wrap
                                             ((ibits BinOp.or IntKind.u64
                                                   (IntKind.u64.wrap
                                                     (IntKind.u64.wrap x * (10000000000 : Int) /
                                                         (18446744073709551616 : Int) *
                                                       (2 : Int) ^ (32 : Nat)))
                                                   ((IntKind.u64.wrap x * (10000000000 : Int) %
                                                         (18446744073709551616 : Int)).fdiv
                                                     ((2 : Int) ^ (32 : Nat)))).tdiv
                                               (10 : Int))).tdiv
                                         (10 : Int))).tdiv
                                   (10 : Int))).tdiv
                             (10 : Int))).tmod
                       (10 : Int)))),
             IV.int IntKind.u8
               (IntKind.u8.wrap
                 (IntKind.u64.wrap
                   ((48 : Int) +
                     (IntKind.u64.wrap
                           ((IntKind.u64.wrap
                                 ((IntKind.u64.wrap
                                       ((ibits BinOp.or IntKind.u64
                                             (IntKind.u64.wrap
                                               (IntKind.u64.wrap x * (10000000000 : Int) / (18446744073709551616 : Int) *
                                                 (2 : Int) ^ (32 : Nat)))
                                             ((IntKind.u64.wrap x * (10000000000 : Int) %
                                                   (18446744073709551616 : Int)).fdiv
                                               ((2 : Int) ^ (32 : Nat)))).tdiv
                                         (10 : Int))).tdiv
                                   (10 : Int))).tdiv
                             (10 : Int))).tmod
                       (10 : Int)))),
             IV.int IntKind.u8
               (IntKind.u8.wrap
                 (IntKind.u64.wrap
                   ((48 : Int) +
                     (IntKind.u64.wrap
                           ((IntKind.u64.wrap
                                 ((ibits BinOp.or IntKind.u64
                                       (IntKind.u64.wrap
                                         (IntKind.u64.wrap x * (10000000000 : Int) / (18446744073709551616 : Int) *
                                           (2 : Int) ^ (32 : Nat)))
                                       ((IntKind.u64.wrap x * (10000000000 : Int) % (18446744073709551616 : Int)).fdiv
                                         ((2 : Int) ^ (32 : Nat)))).tdiv
                                   (10 : Int))).tdiv
                             (10 : Int))).tmod
                       (10 : Int)))),
             IV.int IntKind.u8
               (IntKind.u8.wrap
                 (IntKind.u64.wrap
                   ((48 : Int) +
                     (IntKind.u64.wrap
                           ((ibits BinOp.or IntKind.u64
                                 (IntKind.u64.wrap
                                   (IntKind.u64.wrap x * (10000000000 : Int) / (18446744073709551616 : Int) *
                                     (2 : Int) ^ (32 : Nat)))
                                 ((IntKind.u64.wrap x * (10000000000 : Int) % (18446744073709551616 : Int)).fdiv
                                   ((2 : Int) ^ (32 : Nat)))).tdiv
                             (10 : Int))).tmod
                       (10 : Int)))),
             IV.int IntKind.u8
               (IntKind.u8.wrap
                 (IntKind.u64.wrap
                   ((48 : Int) +
                     (ibits BinOp.or IntKind.u64
                           (IntKind.u64.wrap
                             (IntKind.u64.wrap x * (10000000000 : Int) / (18446744073709551616 : Int) *
                               (2 : Int) ^ (32 : Nat)))
                           ((IntKind.u64.wrap x * (10000000000 : Int) % (18446744073709551616 : Int)).fdiv
                             ((2 : Int) ^ (32 : Nat)))).tmod
                       (10 : Int))))],
         [])
   else none) := by kernel_rfl
theorem ten_known : Known Tryd.prog hint 39 (tenF dI) := by
  refine known_of fits (spec := tab [(44, mulF)]) (tab_cons mul_known tab_nil) loops_none ?_
  intro xs T v T1 h
  unfold tenF at h
  split at h
  · rename_i x
    simp only [List.mem_cons, List.not_mem_nil, or_false, Prod.mk.injEq, Bool.true_eq, decide_eq_true_eq] at h
    obtain ⟨⟨h1, h2⟩, rfl, rfl⟩ := h
    obtain ⟨m, rfl⟩ : ∃ m : Nat, x = m := ⟨x.toNat, by omega⟩
    refine ⟨30, (ten_tree _).trans ?_⟩
    have e0 : IntKind.u64.wrap (m : Int) = (m : Int) := by rw [wrap_u64]; omega
    have g : decide ((0 : Int) ≤ (m : Int) ∧ (m : Int) < 4294967296 ∧ True) = true := by simp; omega
    have eN : ibits BinOp.or IntKind.u64 (IntKind.u64.wrap ((m : Int) * 10000000000 / 18446744073709551616 * (2 : Int) ^ (32 : Nat))) (((m : Int) * 10000000000 % 18446744073709551616).fdiv ((2 : Int) ^ (32 : Nat))) = ((prN m : Nat) : Int) := by
      have p : (2 : Int) ^ (32 : Nat) = 4294967296 := rfl
      have q0 : (m : Int) * 10000000000 = ((m * 10000000000 : Nat) : Int) := by omega
      have q1 : m * 10000000000 < 42949672960000000000 := by omega
      unfold prN
      rw [q0]
      generalize m * 10000000000 = M at *
      have a1 : IntKind.u64.wrap ((M : Int) / 18446744073709551616 * (2 : Int) ^ (32 : Nat)) = ((M / 18446744073709551616 * 4294967296 : Nat) : Int) := by rw [p, wrap_u64]; omega
      have a2 : ((M : Int) % 18446744073709551616).fdiv ((2 : Int) ^ (32 : Nat)) = ((M % 18446744073709551616 / 4294967296 : Nat) : Int) := by rw [p, Int.fdiv_eq_ediv_of_nonneg _ (by decide)]; omega
      rw [a1, a2, ior32 (by omega) (by omega)]
      omega
    simp only [e0, eN]
    rw [g, cond_true]
    have hN := prN_lt (p := m) (by omega)
    simp only [dI, Int.toNat_natCast]
    generalize prN m = N at *
    simp only [Nat.reducePow]
    have nn : ∀ {n : Nat}, n < 18446744073709551616 → IntKind.u64.wrap (n : Int) = (n : Int) := fun h => by rw [n_u64, Nat.mod_eq_of_lt h]
    simp (disch := omega) only [nn, n_div10, n_mod10, n_48, n_u8]
    have c : ∀ {a b : Nat} {l l' : List IV}, a = b → l = l' → IV.int .u8 (a : Int) :: l = IV.int .u8 (b : Int) :: l' := fun h h' => by rw [h, h']
    have ca : ∀ {a b : List IV}, a = b → some (IV.agg a, ([] : List Blk)) = some (IV.agg b, []) := fun h => by rw [h]
    refine ca ?_
    refine c ?_ (c ?_ (c ?_ (c ?_ (c ?_ (c ?_ (c ?_ (c ?_ (c ?_ (c ?_ rfl)))))))))
    all_goals omega
  · cases h

/-! ### Print -/
def tenL (N : Nat) : List UInt8 := [dig (N / 1000000000 % 10), dig (N / 100000000 % 10), dig (N / 10000000 % 10), dig (N / 1000000 % 10), dig (N / 100000 % 10), dig (N / 10000 % 10), dig (N / 1000 % 10), dig (N / 100 % 10), dig (N / 10 % 10), dig (N / 1 % 10)]
def printL (t : Nat) : List UInt8 := decL (t / 4294967296) ++ [46] ++ tenL (prN (t % 4294967296))
theorem isBytes_app {a b : List IV} : isBytes (a ++ b) = (isBytes a && isBytes b) := by
  induction a with
  | nil => rfl
  | cons x l ih =>
    cases x with
    | int k i => cases k <;> simp [isBytes, ih]
    | _ => simp [isBytes]
theorem toBytes_app {a b : List IV} : toBytes (a ++ b) = toBytes a ++ toBytes b := by
  induction a with
  | nil => rfl
  | cons x l ih => simp [toBytes, ih]
theorem isBytes_u8s (l : List UInt8) : isBytes (u8s l) = true := by
  induction l with
  | nil => rfl
  | cons x l ih => simpa [u8s, isBytes] using ih
theorem toBytes_u8s (l : List UInt8) : toBytes (u8s l) = l := by
  induction l with
  | nil => rfl
  | cons x l ih =>
    have : toBytes (u8s (x :: l)) = UInt8.ofNat (intOf (.int .u8 ((x.toNat : Nat) : Int))).toNat :: toBytes (u8s l) := rfl
    rw [this, ih, intOf_int, Int.toNat_natCast]
    simp
abbrev tabP (a : Int → List IV) (d : Nat → Int → Int) : FuncId → Option SpecF := tab [(39, tenF d), (41, fun xs T => match xs, T with
  | [.fsl (some true) true 0 [], .int .u64 n, .int .i64 b], [] => [(decide (0 ≤ n ∧ n < 4294967296 ∧ b = 10), .fsl none false 1 (a n), [])]
  | _, _ => [])]
theorem print_tree (x : Int) (a : Int → List IV) (d : Nat → Int → Int) : C (tabP a d) 18 [.int .u64 x] =
  (bif decide ((0 : Int) ≤ IntKind.u32.wrap x ∧ IntKind.u32.wrap x < (4294967296 : Int)) then
     bif
         decide
           ((0 : Int) ≤ IntKind.u64.wrap (IntKind.u32.wrap (x.fdiv ((2 : Int) ^ (32 : Nat)))) ∧
             IntKind.u64.wrap (IntKind.u32.wrap (x.fdiv ((2 : Int) ^ (32 : Nat)))) < (4294967296 : Int) ∧
               (10 : Int) = (10 : Int)) then
       bif
           decide
             (((0 : Nat) = (1 : Nat) ∨ (0 : Nat) = (0 : Nat)) ∧
               ((0 : Nat) = (0 : Nat) ∨
                   (0 : Nat) <
                     (rowL
                         (IV.fsl none false (nat_lit 1)
                           (a (IntKind.u64.wrap (IntKind.u32.wrap (x.fdiv ((2 : Int) ^ (32 : Nat)))))))).length) ∧
                 ((0 : Nat) +
                         (rowL
                             (IV.fsl none false (nat_lit 1)
                               (a (IntKind.u64.wrap (IntKind.u32.wrap (x.fdiv ((2 : Int) ^ (32 : Nat)))))))).length) *
                       (1 : Nat) ≤
                     roomB ∧
                   (0 : Nat) +
                       (rowL
                           (IV.fsl none false (nat_lit 1)
                             (a (IntKind.u64.wrap (IntKind.u32.wrap (x.fdiv ((2 : Int) ^ (32 : Nat)))))))).length ≤
                     maxLen) then
         bif
             decide
               ((([] ++
                           rowL
                             (IV.fsl none false (nat_lit 1)
                               (a (IntKind.u64.wrap (IntKind.u32.wrap (x.fdiv ((2 : Int) ^ (32 : Nat)))))))).length +
                       (1 : Nat)) *
                     (1 : Nat) ≤
                   roomB ∧
                 ([] ++
                         rowL
                           (IV.fsl none false (nat_lit 1)
                             (a (IntKind.u64.wrap (IntKind.u32.wrap (x.fdiv ((2 : Int) ^ (32 : Nat)))))))).length +
                     (1 : Nat) ≤
                   maxLen) then
           bif
               decide
                 ((([] ++
                               rowL
                                 (IV.fsl none false (nat_lit 1)
                                   (a (IntKind.u64.wrap (IntKind.u32.wrap (x.fdiv ((2 : Int) ^ (32 : Nat))))))) ++
                             rowL (IV.fsl none false (nat_lit 1) [IV.int IntKind.u8 (46 : Int)])).length +
                         (rowL
                             (IV.fsl (some false) false (nat_lit 1)
                               [IV.int IntKind.u8 (d (9 : Nat) (IntKind.u32.wrap x)),
                                 IV.int IntKind.u8 (d (8 : Nat) (IntKind.u32.wrap x)),
                                 IV.int IntKind.u8 (d (7 : Nat) (IntKind.u32.wrap x)),
                                 IV.int IntKind.u8 (d (6 : Nat) (IntKind.u32.wrap x)),
                                 IV.int IntKind.u8 (d (5 : Nat) (IntKind.u32.wrap x)),
                                 IV.int IntKind.u8 (d (4 : Nat) (IntKind.u32.wrap x)),
                                 IV.int IntKind.u8 (d (3 : Nat) (IntKind.u32.wrap x)),
                                 IV.int IntKind.u8 (d (2 : Nat) (IntKind.u32.wrap x)),
                                 IV.int IntKind.u8 (d (1 : Nat) (IntKind.u32.wrap x)),
                                 IV.int IntKind.u8 (d (0 : Nat) (IntKind.u32.wrap x))])).length) *
                       (1 : Nat) ≤
                     roomB ∧
                   ([] ++
                             rowL
                               (IV.fsl none false (nat_lit 1)
                                 (a (IntKind.u64.wrap (IntKind.u32.wrap (x.fdiv ((2 : Int) ^ (32 : Nat))))))) ++
                           rowL (IV.fsl none false (nat_lit 1) [IV.int IntKind.u8 (46 : Int)])).length +
                       (rowL
                           (IV.fsl (some false) false (nat_lit 1)
                             [IV.int IntKind.u8 (d (9 : Nat) (IntKind.u32.wrap x)),
                               IV.int IntKind.u8 (d (8 : Nat) (IntKind.u32.wrap x)),
                               IV.int IntKind.u8 (d (7 : Nat) (IntKind.u32.wrap x)),
                               IV.int IntKind.u8 (d (6 : Nat) (IntKind.u32.wrap x)),
                               IV.int IntKind.u8 (d (5 : Nat) (IntKind.u32.wrap x)),
                               IV.int IntKind.u8 (d (4 : Nat) (IntKind.u32.wrap x)),
                               IV.int IntKind.u8 (d (3 : Nat) (IntKind.u32.wrap x)),
                               IV.int IntKind.u8 (d (2 : Nat) (IntKind.u32.wrap x)),
                               IV.int IntKind.u8 (d (1 : Nat) (IntKind.u32.wrap x)),
                               IV.int IntKind.u8 (d (0 : Nat) (IntKind.u32.wrap x))])).length ≤
                     maxLen) then
             bif
                 decide
                     ((1 : Nat) = (1 : Nat) ∨
                       ([] ++
                                 rowL
                                   (IV.fsl none false (nat_lit 1)
                                     (a (IntKind.u64.wrap (IntKind.u32.wrap (x.fdiv ((2 : Int) ^ (32 : Nat))))))) ++
                               rowL (IV.fsl none false (nat_lit 1) [IV.int IntKind.u8 (46 : Int)]) ++
                             rowL
                               (IV.fsl (some false) false (nat_lit 1)
                                 [IV.int IntKind.u8 (d (9 : Nat) (IntKind.u32.wrap x)),
                                   IV.int IntKind.u8 (d (8 : Nat) (IntKind.u32.wrap x)),
                                   IV.int IntKind.u8 (d (7 : Nat) (IntKind.u32.wrap x)),
                                   IV.int IntKind.u8 (d (6 : Nat) (IntKind.u32.wrap x)),
                                   IV.int IntKind.u8 (d (5 : Nat) (IntKind.u32.wrap x)),
                                   IV.int IntKind.u8 (d (4 : Nat) (IntKind.u32.wrap x)),
                                   IV.int IntKind.u8 (d (3 : Nat) (IntKind.u32.wrap x)),
                                   IV.int IntKind.u8 (d (2 : Nat) (IntKind.u32.wrap x)),
                                   IV.int IntKind.u8 (d (1 : Nat) (IntKind.u32.wrap x)),
                                   IV.int IntKind.u8 (d (0 : Nat) (IntKind.u32.wrap x))])).length =
                         (0 : Nat)) &&
                   isBytes
                     ([] ++
                           rowL
                             (IV.fsl none false (nat_lit 1)
                               (a (IntKind.u64.wrap (IntKind.u32.wrap (x.fdiv ((2 : Int) ^ (32 : Nat))))))) ++
                         rowL (IV.fsl none false (nat_lit 1) [IV.int IntKind.u8 (46 : Int)]) ++
                       rowL
                         (IV.fsl (some false) false (nat_lit 1)
                           [IV.int IntKind.u8 (d (9 : Nat) (IntKind.u32.wrap x)),
                             IV.int IntKind.u8 (d (8 : Nat) (IntKind.u32.wrap x)),
                             IV.int IntKind.u8 (d (7 : Nat) (IntKind.u32.wrap x)),
                             IV.int IntKind.u8 (d (6 : Nat) (IntKind.u32.wrap x)),
                             IV.int IntKind.u8 (d (5 : Nat) (IntKind.u32.wrap x)),
                             IV.int IntKind.u8 (d (4 : Nat) (IntKind.u32.wrap x)),
                             IV.int IntKind.u8 (d (3 : Nat) (IntKind.u32.wrap x)),
                             IV.int IntKind.u8 (d (2 : Nat) (IntKind.u32.wrap x)),
                             IV.int IntKind.u8 (d (1 : Nat) (IntKind.u32.wrap x)),
                             IV.int IntKind.u8 (d (0 : Nat) (IntKind.u32.wrap x))])) then
               some
                 (IV.str
                     (toBytes
                       ([] ++
                             rowL
                               (IV.fsl none false (nat_lit 1)
                                 (a (IntKind.u64.wrap (IntKind.u32.wrap (x.fdiv ((2 : Int) ^ (32 : Nat))))))) ++
                           rowL (IV.fsl none false (nat_lit 1) [IV.int IntKind.u8 (46 : Int)]) ++
                         rowL
                           (IV.fsl (some false) false (nat_lit 1)
                             [IV.int IntKind.u8 (d (9 : Nat) (IntKind.u32.wrap x)),
                               IV.int IntKind.u8 (d (8 : Nat) (IntKind.u32.wrap x)),
                               IV.int IntKind.u8 (d (7 : Nat) (IntKind.u32.wrap x)),
                               IV.int IntKind.u8 (d (6 : Nat) (IntKind.u32.wrap x)),
                               IV.int IntKind.u8 (d (5 : Nat) (IntKind.u32.wrap x)),
                               IV.int IntKind.u8 (d (4 : Nat) (IntKind.u32.wrap x)),
                               IV.int IntKind.u8 (d (3 : Nat) (IntKind.u32.wrap x)),
                               IV.int IntKind.u8 (d (2 : Nat) (IntKind.u32.wrap x)),
                               IV.int IntKind.u8 (d (1 : Nat) (IntKind.u32.wrap x)),
                               IV.int IntKind.u8 (d (0 : Nat) (IntKind.u32.wrap x))]))),
                   [])
             else none
           else none
         else none
       else none
     else none
   else none) := by kernel_rfl
def printF : SpecF := fun xs T => match xs, T with
  | [.int .u64 x], [] => [(decide (0 ≤ x ∧ x < 18446744073709551616), .str (printL x.toNat), [])]
  | _, _ => []
theorem print_known : Known Tryd.prog hint 18 printF := by
  refine known_of fits (spec := tabP (fun n => u8s (decL n.toNat)) dI) (tab_cons ten_known (tab_cons app_known tab_nil)) loops_none ?_
  intro xs T v T1 h
  unfold printF at h
  split at h
  · rename_i x
    simp only [List.mem_cons, List.not_mem_nil, or_false, Prod.mk.injEq, Bool.true_eq, decide_eq_true_eq] at h
    obtain ⟨⟨h1, h2⟩, rfl, rfl⟩ := h
    obtain ⟨m, rfl⟩ : ∃ m : Nat, x = m := ⟨x.toNat, by omega⟩
    refine ⟨30, (print_tree _ _ _).trans ?_⟩
    have e0 : IntKind.u32.wrap (m : Int) = ((m % 4294967296 : Nat) : Int) := n_u32 m
    have e1 : IntKind.u64.wrap (IntKind.u32.wrap ((m : Int).fdiv ((2 : Int) ^ (32 : Nat)))) = ((m / 4294967296 : Nat) : Int) := by rw [n_sh32, n_u32, n_u64]; omega
    have g1 : decide ((0 : Int) ≤ ((m % 4294967296 : Nat) : Int) ∧ ((m % 4294967296 : Nat) : Int) < 4294967296) = true := by simp; omega
    have g2 : decide ((0 : Int) ≤ ((m / 4294967296 : Nat) : Int) ∧ ((m / 4294967296 : Nat) : Int) < 4294967296 ∧ True) = true := by simp; omega
    have hl : (decL (m / 4294967296)).length ≤ 10 := decL_len 9 _ (by omega)
    have hm : (4398046511104 : Nat) ≤ maxLen := by decide
    have hr : (4096 : Nat) ≤ roomB := by decide
    have dd : ∀ k, IV.int IntKind.u8 (dI k ((m % 4294967296 : Nat) : Int)) = .int .u8 (((dig (prN (m % 4294967296) / 10 ^ k % 10)).toNat : Nat) : Int) := by
      intro k
      rw [dig_cell (by omega)]
      simp only [dI, Int.toNat_natCast]
    have ht : [IV.int IntKind.u8 (dI 9 ((m % 4294967296 : Nat) : Int)), IV.int IntKind.u8 (dI 8 ((m % 4294967296 : Nat) : Int)), IV.int IntKind.u8 (dI 7 ((m % 4294967296 : Nat) : Int)), IV.int IntKind.u8 (dI 6 ((m % 4294967296 : Nat) : Int)), IV.int IntKind.u8 (dI 5 ((m % 4294967296 : Nat) : Int)),
        IV.int IntKind.u8 (dI 4 ((m % 4294967296 : Nat) : Int)), IV.int IntKind.u8 (dI 3 ((m % 4294967296 : Nat) : Int)), IV.int IntKind.u8 (dI 2 ((m % 4294967296 : Nat) : Int)), IV.int IntKind.u8 (dI 1 ((m % 4294967296 : Nat) : Int)), IV.int IntKind.u8 (dI 0 ((m % 4294967296 : Nat) : Int))] = u8s (tenL (prN (m % 4294967296))) := by
      simp only [dd]
      rfl
    have hdot : [IV.int IntKind.u8 (46 : Int)] = u8s [46] := rfl
    have htl : (u8s (tenL (prN (m % 4294967296)))).length = 10 := rfl
    have hdl : (u8s [46]).length = 1 := rfl
    simp only [e0, e1, g1, g2, cond_true, ht, hdot, rowL, List.nil_append, Int.toNat_natCast]
    simp only [List.length_append, u8s_len, htl, hdl, isBytes_app, isBytes_u8s, toBytes_app, toBytes_u8s, Bool.and_self, Bool.and_true]
    have l1 : [(46 : UInt8)].length = 1 := rfl
    have l2 : (tenL (prN (m % 4294967296))).length = 10 := rfl
    have r1 : (0 + (decL (m / 4294967296)).length) * 1 ≤ roomB ∧ 0 + (decL (m / 4294967296)).length ≤ maxLen := ⟨by omega, by omega⟩
    have r2 : ((decL (m / 4294967296)).length + 1) * 1 ≤ roomB ∧ (decL (m / 4294967296)).length + 1 ≤ maxLen := ⟨by omega, by omega⟩
    have r3 : ((decL (m / 4294967296)).length + 1 + 10) * 1 ≤ roomB ∧ (decL (m / 4294967296)).length + 1 + 10 ≤ maxLen := ⟨by omega, by omega⟩
    simp only [r1, r2, r3, and_self, or_true, true_or, decide_true, cond_true, printL]
  · cases h
end Go.Proofs.YthnleapnhkkeoaaDoor
