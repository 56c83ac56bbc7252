/- What the printing of whole numbers answers. It bears no condition. -/
import Derived.Test.YthnleapnhkkeoaaDoorSpBase
namespace Go.Proofs.YthnleapnhkkeoaaDoor
open Go Go.Im
set_option linter.unusedVariables false
set_option linter.unusedSimpArgs false

/-! ### Natural numbers -/
theorem n_u32 (n : Nat) : IntKind.u32.wrap (n : Int) = ((n % 4294967296 : Nat) : Int) := by rw [wrap_u32]; omega
theorem n_u64 (n : Nat) : IntKind.u64.wrap (n : Int) = ((n % 18446744073709551616 : Nat) : Int) := by rw [wrap_u64]; omega
theorem n_u8 (n : Nat) : IntKind.u8.wrap (n : Int) = ((n % 256 : Nat) : Int) := by
  have : IntKind.u8.wrap (n : Int) = (n : Int) % 256 := rfl
  rw [this]; omega
theorem n_i64 {n : Nat} (h : n < 9223372036854775808) : IntKind.i64.wrap (n : Int) = (n : Int) := by rw [wrap_i64]; omega
theorem n_tmod (n k : Nat) : (n : Int).tmod (k : Int) = ((n % k : Nat) : Int) := rfl
theorem n_tdiv (n k : Nat) : (n : Int).tdiv (k : Int) = ((n / k : Nat) : Int) := rfl
theorem n_mod10 (n : Nat) : (n : Int).tmod 10 = ((n % 10 : Nat) : Int) := rfl
theorem n_div10 (n : Nat) : (n : Int).tdiv 10 = ((n / 10 : Nat) : Int) := rfl
theorem n_mod100 (n : Nat) : (n : Int).tmod 100 = ((n % 100 : Nat) : Int) := rfl
theorem n_div100 (n : Nat) : (n : Int).tdiv 100 = ((n / 100 : Nat) : Int) := rfl
theorem n_mod4 (n : Nat) : (n : Int).tmod 10000 = ((n % 10000 : Nat) : Int) := rfl
theorem n_div4 (n : Nat) : (n : Int).tdiv 10000 = ((n / 10000 : Nat) : Int) := rfl
theorem n_mod8 (n : Nat) : (n : Int).tmod 100000000 = ((n % 100000000 : Nat) : Int) := rfl
theorem n_div8 (n : Nat) : (n : Int).tdiv 100000000 = ((n / 100000000 : Nat) : Int) := rfl
theorem n_sh8 (n : Nat) : (n : Int).fdiv ((2 : Int) ^ (8 : Nat)) = ((n / 256 : Nat) : Int) := by rw [Int.fdiv_eq_ediv_of_nonneg _ (by decide)]; rfl
theorem n_sh16 (n : Nat) : (n : Int).fdiv ((2 : Int) ^ (16 : Nat)) = ((n / 65536 : Nat) : Int) := by rw [Int.fdiv_eq_ediv_of_nonneg _ (by decide)]; rfl
theorem n_sh18 (n : Nat) : (n : Int).fdiv ((2 : Int) ^ (18 : Nat)) = ((n / 262144 : Nat) : Int) := by rw [Int.fdiv_eq_ediv_of_nonneg _ (by decide)]; rfl
theorem n_sh32 (n : Nat) : (n : Int).fdiv ((2 : Int) ^ (32 : Nat)) = ((n / 4294967296 : Nat) : Int) := by rw [Int.fdiv_eq_ediv_of_nonneg _ (by decide)]; rfl
theorem n_add1 (n : Nat) : (n : Int) + 1 = ((n + 1 : Nat) : Int) := rfl
theorem n_add2 (n : Nat) : (n : Int) + 2 = ((n + 2 : Nat) : Int) := rfl
theorem n_mul2 (n : Nat) : (n : Int) * 2 = ((n * 2 : Nat) : Int) := rfl
theorem n_48 (n : Nat) : (48 : Int) + n = ((48 + n : Nat) : Int) := by omega
theorem n_in {a b : Nat} (h : a < b) : decide ((0 : Int) ≤ (a : Int) ∧ (a : Int) < (b : Int)) = true := by simp; omega
theorem n_in3 {a b c : Nat} (h : a ≤ b) (h2 : b ≤ c) : decide ((0 : Int) ≤ (a : Int) ∧ (a : Int) ≤ (b : Int) ∧ (b : Int) ≤ (c : Int)) = true := by simp; omega

/-! ### Digits -/
def dig (n : Nat) : UInt8 := UInt8.ofNat (48 + n)
def decL (n : Nat) : List UInt8 := if n < 10 then [dig n] else decL (n / 10) ++ [dig (n % 10)]
theorem decL_lt {n : Nat} (h : n < 10) : decL n = [dig n] := by rw [decL, if_pos h]
theorem decL_ge {n : Nat} (h : 10 ≤ n) : decL n = decL (n / 10) ++ [dig (n % 10)] := by rw [decL, if_neg (by omega)]
theorem dig_cell {n : Nat} (h : n < 10) : (dig n).toNat = 48 + n := by
  show (48 + n) % 2 ^ 8 = _
  omega

def byts0 : List UInt8 := [48, 49, 50, 51, 52, 53, 54, 55, 56, 57, 97, 98, 99, 100, 101, 102, 103, 104, 105, 106, 107, 108, 109, 110, 111, 112, 113, 114, 115, 116, 117, 118, 119, 120, 121, 122]
def byts1 : List UInt8 := [48, 48, 48, 49, 48, 50, 48, 51, 48, 52, 48, 53, 48, 54, 48, 55, 48, 56, 48, 57, 49, 48, 49, 49, 49, 50, 49, 51, 49, 52, 49, 53, 49, 54, 49, 55, 49, 56, 49, 57, 50, 48, 50, 49, 50, 50, 50, 51, 50, 52, 50, 53, 50, 54, 50, 55, 50, 56, 50, 57, 51, 48, 51, 49, 51, 50, 51, 51, 51, 52, 51, 53, 51, 54, 51, 55, 51, 56, 51, 57, 52, 48, 52, 49, 52, 50, 52, 51, 52, 52, 52, 53, 52, 54, 52, 55, 52, 56, 52, 57, 53, 48, 53, 49, 53, 50, 53, 51, 53, 52, 53, 53, 53, 54, 53, 55, 53, 56, 53, 57, 54, 48, 54, 49, 54, 50, 54, 51, 54, 52, 54, 53, 54, 54, 54, 55, 54, 56, 54, 57, 55, 48, 55, 49, 55, 50, 55, 51, 55, 52, 55, 53, 55, 54, 55, 55, 55, 56, 55, 57, 56, 48, 56, 49, 56, 50, 56, 51, 56, 52, 56, 53, 56, 54, 56, 55, 56, 56, 56, 57, 57, 48, 57, 49, 57, 50, 57, 51, 57, 52, 57, 53, 57, 54, 57, 55, 57, 56, 57, 57]
theorem small_tree (x : Int) : C (tab []) 47 [.int .i64 x] =
  (bif decide (x < (10 : Int)) then
     bif
         decide
           ((0 : Int) ≤ x ∧
             x ≤ IntKind.i64.wrap (x + (1 : Int)) ∧ IntKind.i64.wrap (x + (1 : Int)) ≤ (↑(36 : Nat) : Int)) then
       some
         (IV.str
             (List.take ((IntKind.i64.wrap (x + (1 : Int))).toNat - x.toNat)
               (List.drop x.toNat
                 byts0)),
           [])
     else none
   else
     bif
         decide
           ((0 : Int) ≤ IntKind.i64.wrap (x * (2 : Int)) ∧
             IntKind.i64.wrap (x * (2 : Int)) ≤ IntKind.i64.wrap (IntKind.i64.wrap (x * (2 : Int)) + (2 : Int)) ∧
               IntKind.i64.wrap (IntKind.i64.wrap (x * (2 : Int)) + (2 : Int)) ≤ (↑(200 : Nat) : Int)) then
       some
         (IV.str
             (List.take
               ((IntKind.i64.wrap (IntKind.i64.wrap (x * (2 : Int)) + (2 : Int))).toNat -
                 (IntKind.i64.wrap (x * (2 : Int))).toNat)
               (List.drop (IntKind.i64.wrap (x * (2 : Int))).toNat
                 byts1)),
           [])
     else none) := by kernel_rfl
theorem small1 : ∀ i, i < 10 → List.take (i + 1 - i) (List.drop i byts0) = decL i := by
  intro i h
  rw [decL_lt h]
  revert i
  decide
theorem small2 : ∀ i, 10 ≤ i → i < 100 → List.take (i * 2 + 2 - i * 2) (List.drop (i * 2) byts1) = decL i := by
  intro i h1 h2
  rw [decL_ge h1, decL_lt (show i / 10 < 10 by omega)]
  have : ∀ i, i < 100 → List.take (i * 2 + 2 - i * 2) (List.drop (i * 2) byts1) = [dig (i / 10)] ++ [dig (i % 10)] := by decide +kernel
  exact this i h2
theorem pair0 {i y : Nat} (hy : y < 100) (h : i = y * 2) : byts1.getD i 0 = dig (y / 10) := by
  subst h
  have : ∀ y, y < 100 → byts1.getD (y * 2) 0 = dig (y / 10) := by decide +kernel
  exact this y hy
theorem pair1 {i y : Nat} (hy : y < 100) (h : i = y * 2 + 1) : byts1.getD i 0 = dig (y % 10) := by
  subst h
  have : ∀ y, y < 100 → byts1.getD (y * 2 + 1) 0 = dig (y % 10) := by decide +kernel
  exact this y hy
def smallF : SpecF := fun xs T => match xs, T with
  | [.int .i64 n], [] => [(decide (0 ≤ n ∧ n < 100), .str (decL n.toNat), [])]
  | _, _ => []
theorem small_known : Known Tryd.prog hint 47 smallF := by
  refine known_of fits (spec := tab []) tab_nil loops_none ?_
  intro xs T v T1 h
  unfold smallF at h
  split at h
  · rename_i n
    simp only [List.mem_cons, List.not_mem_nil, or_false, Prod.mk.injEq, Bool.true_eq, decide_eq_true_eq] at h
    obtain ⟨h1, rfl, rfl⟩ := h
    obtain ⟨m, rfl⟩ : ∃ m : Nat, n = m := ⟨n.toNat, by omega⟩
    refine ⟨30, (small_tree _).trans ?_⟩
    have c1 : decide ((m : Int) < 10) = decide (m < 10) := by rw [Bool.eq_iff_iff]; simp; omega
    rw [c1]
    have e1 : IntKind.i64.wrap ((m : Int) + 1) = ((m + 1 : Nat) : Int) := by rw [wrap_i64]; omega
    have e2 : IntKind.i64.wrap ((m : Int) * 2) = ((m * 2 : Nat) : Int) := by rw [wrap_i64]; omega
    have e3 : IntKind.i64.wrap (((m * 2 : Nat) : Int) + 2) = ((m * 2 + 2 : Nat) : Int) := by rw [wrap_i64]; omega
    simp only [e1, e2, e3, Int.toNat_natCast]
    rw [n_in3 (show m * 2 ≤ m * 2 + 2 by omega) (show m * 2 + 2 ≤ 200 by omega)]
    by_cases h : m < 10
    · rw [n_in3 (show m ≤ m + 1 by omega) (show m + 1 ≤ 36 by omega)]
      simp only [h, decide_true, cond_true, small1 m h]
    · simp only [h, decide_false, cond_false, cond_true, small2 m (by omega) (by omega)]
  · cases h

/-! ### The length in bits -/
def byts2 : List UInt8 := [0, 1, 2, 2, 3, 3, 3, 3, 4, 4, 4, 4, 4, 4, 4, 4, 5, 5, 5, 5, 5, 5, 5, 5, 5, 5, 5, 5, 5, 5, 5, 5, 6, 6, 6, 6, 6, 6, 6, 6, 6, 6, 6, 6, 6, 6, 6, 6, 6, 6, 6, 6, 6, 6, 6, 6, 6, 6, 6, 6, 6, 6, 6, 6, 7, 7, 7, 7, 7, 7, 7, 7, 7, 7, 7, 7, 7, 7, 7, 7, 7, 7, 7, 7, 7, 7, 7, 7, 7, 7, 7, 7, 7, 7, 7, 7, 7, 7, 7, 7, 7, 7, 7, 7, 7, 7, 7, 7, 7, 7, 7, 7, 7, 7, 7, 7, 7, 7, 7, 7, 7, 7, 7, 7, 7, 7, 7, 7, 8, 8, 8, 8, 8, 8, 8, 8, 8, 8, 8, 8, 8, 8, 8, 8, 8, 8, 8, 8, 8, 8, 8, 8, 8, 8, 8, 8, 8, 8, 8, 8, 8, 8, 8, 8, 8, 8, 8, 8, 8, 8, 8, 8, 8, 8, 8, 8, 8, 8, 8, 8, 8, 8, 8, 8, 8, 8, 8, 8, 8, 8, 8, 8, 8, 8, 8, 8, 8, 8, 8, 8, 8, 8, 8, 8, 8, 8, 8, 8, 8, 8, 8, 8, 8, 8, 8, 8, 8, 8, 8, 8, 8, 8, 8, 8, 8, 8, 8, 8, 8, 8, 8, 8, 8, 8, 8, 8, 8, 8, 8, 8, 8, 8, 8, 8, 8, 8, 8, 8, 8, 8, 8, 8, 8, 8, 8, 8]
theorem len_tree (x : Int) : C (tab []) 46 [.int .u64 x] =
  (bif decide (x ≥ (4294967296 : Int)) then
     bif decide (x.fdiv ((2 : Int) ^ (32 : Nat)) ≥ (65536 : Int)) then
       bif decide ((x.fdiv ((2 : Int) ^ (32 : Nat))).fdiv ((2 : Int) ^ (16 : Nat)) ≥ (256 : Int)) then
         bif
             decide
               ((0 : Int) ≤
                   IntKind.u8.wrap
                     (((x.fdiv ((2 : Int) ^ (32 : Nat))).fdiv ((2 : Int) ^ (16 : Nat))).fdiv ((2 : Int) ^ (8 : Nat))) ∧
                 IntKind.u8.wrap
                     (((x.fdiv ((2 : Int) ^ (32 : Nat))).fdiv ((2 : Int) ^ (16 : Nat))).fdiv ((2 : Int) ^ (8 : Nat))) <
                   (↑(256 : Nat) : Int)) then
           some
             (IV.int IntKind.i64
                 (IntKind.i64.wrap
                   (IntKind.i64.wrap (IntKind.i64.wrap ((32 : Int) + (16 : Int)) + (8 : Int)) +
                     IntKind.i64.wrap
                       (↑(byts2.getD
                               (IntKind.u8.wrap
                                   (((x.fdiv ((2 : Int) ^ (32 : Nat))).fdiv ((2 : Int) ^ (16 : Nat))).fdiv
                                     ((2 : Int) ^ (8 : Nat)))).toNat
                               (0 : UInt8)).toNat :
                         Int))),
               [])
         else none
       else
         bif
             decide
               ((0 : Int) ≤ IntKind.u8.wrap ((x.fdiv ((2 : Int) ^ (32 : Nat))).fdiv ((2 : Int) ^ (16 : Nat))) ∧
                 IntKind.u8.wrap ((x.fdiv ((2 : Int) ^ (32 : Nat))).fdiv ((2 : Int) ^ (16 : Nat))) <
                   (↑(256 : Nat) : Int)) then
           some
             (IV.int IntKind.i64
                 (IntKind.i64.wrap
                   (IntKind.i64.wrap ((32 : Int) + (16 : Int)) +
                     IntKind.i64.wrap
                       (↑(byts2.getD
                               (IntKind.u8.wrap ((x.fdiv ((2 : Int) ^ (32 : Nat))).fdiv ((2 : Int) ^ (16 : Nat)))).toNat
                               (0 : UInt8)).toNat :
                         Int))),
               [])
         else none
     else
       bif decide (x.fdiv ((2 : Int) ^ (32 : Nat)) ≥ (256 : Int)) then
         bif
             decide
               ((0 : Int) ≤ IntKind.u8.wrap ((x.fdiv ((2 : Int) ^ (32 : Nat))).fdiv ((2 : Int) ^ (8 : Nat))) ∧
                 IntKind.u8.wrap ((x.fdiv ((2 : Int) ^ (32 : Nat))).fdiv ((2 : Int) ^ (8 : Nat))) <
                   (↑(256 : Nat) : Int)) then
           some
             (IV.int IntKind.i64
                 (IntKind.i64.wrap
                   (IntKind.i64.wrap ((32 : Int) + (8 : Int)) +
                     IntKind.i64.wrap
                       (↑(byts2.getD
                               (IntKind.u8.wrap ((x.fdiv ((2 : Int) ^ (32 : Nat))).fdiv ((2 : Int) ^ (8 : Nat)))).toNat
                               (0 : UInt8)).toNat :
                         Int))),
               [])
         else none
       else
         bif
             decide
               ((0 : Int) ≤ IntKind.u8.wrap (x.fdiv ((2 : Int) ^ (32 : Nat))) ∧
                 IntKind.u8.wrap (x.fdiv ((2 : Int) ^ (32 : Nat))) < (↑(256 : Nat) : Int)) then
           some
             (IV.int IntKind.i64
                 (IntKind.i64.wrap
                   ((32 : Int) +
                     IntKind.i64.wrap
                       (↑(byts2.getD
                               (IntKind.u8.wrap (x.fdiv ((2 : Int) ^ (32 : Nat)))).toNat (0 : UInt8)).toNat :
                         Int))),
               [])
         else none
   else
     bif decide (x ≥ (65536 : Int)) then
       bif decide (x.fdiv ((2 : Int) ^ (16 : Nat)) ≥ (256 : Int)) then
         bif
             decide
               ((0 : Int) ≤ IntKind.u8.wrap ((x.fdiv ((2 : Int) ^ (16 : Nat))).fdiv ((2 : Int) ^ (8 : Nat))) ∧
                 IntKind.u8.wrap ((x.fdiv ((2 : Int) ^ (16 : Nat))).fdiv ((2 : Int) ^ (8 : Nat))) <
                   (↑(256 : Nat) : Int)) then
           some
             (IV.int IntKind.i64
                 (IntKind.i64.wrap
                   (IntKind.i64.wrap (IntKind.i64.wrap ((0 : Int) + (16 : Int)) + (8 : Int)) +
                     IntKind.i64.wrap
                       (↑(byts2.getD
                               (IntKind.u8.wrap ((x.fdiv ((2 : Int) ^ (16 : Nat))).fdiv ((2 : Int) ^ (8 : Nat)))).toNat
                               (0 : UInt8)).toNat :
                         Int))),
               [])
         else none
       else
         bif
             decide
               ((0 : Int) ≤ IntKind.u8.wrap (x.fdiv ((2 : Int) ^ (16 : Nat))) ∧
                 IntKind.u8.wrap (x.fdiv ((2 : Int) ^ (16 : Nat))) < (↑(256 : Nat) : Int)) then
           some
             (IV.int IntKind.i64
                 (IntKind.i64.wrap
                   (IntKind.i64.wrap ((0 : Int) + (16 : Int)) +
                     IntKind.i64.wrap
                       (↑(byts2.getD
                               (IntKind.u8.wrap (x.fdiv ((2 : Int) ^ (16 : Nat)))).toNat (0 : UInt8)).toNat :
                         Int))),
               [])
         else none
     else
       bif decide (x ≥ (256 : Int)) then
         bif
             decide
               ((0 : Int) ≤ IntKind.u8.wrap (x.fdiv ((2 : Int) ^ (8 : Nat))) ∧
                 IntKind.u8.wrap (x.fdiv ((2 : Int) ^ (8 : Nat))) < (↑(256 : Nat) : Int)) then
           some
             (IV.int IntKind.i64
                 (IntKind.i64.wrap
                   (IntKind.i64.wrap ((0 : Int) + (8 : Int)) +
                     IntKind.i64.wrap
                       (↑(byts2.getD
                               (IntKind.u8.wrap (x.fdiv ((2 : Int) ^ (8 : Nat)))).toNat (0 : UInt8)).toNat :
                         Int))),
               [])
         else none
       else
         bif decide ((0 : Int) ≤ IntKind.u8.wrap x ∧ IntKind.u8.wrap x < (↑(256 : Nat) : Int)) then
           some
             (IV.int IntKind.i64
                 (IntKind.i64.wrap
                   ((0 : Int) +
                     IntKind.i64.wrap
                       (↑(byts2.getD
                               (IntKind.u8.wrap x).toNat (0 : UInt8)).toNat :
                         Int))),
               [])
         else none) := by kernel_rfl
theorem len8 {i : Nat} (h0 : 0 < i) (h : i < 256) : (byts2.getD i 0).toNat = Nat.log2 i + 1 := by
  have : ∀ i, i < 256 → i = 0 ∨ (byts2.getD i 0).toNat = Nat.log2 i + 1 := by decide +kernel
  rcases this i h with h | h
  · omega
  · exact h
theorem log_sh {n k : Nat} (h : 2 ^ k ≤ n) : Nat.log2 n = Nat.log2 (n / 2 ^ k) + k := by
  have hp := Nat.two_pow_pos k
  have h0 : n / 2 ^ k ≠ 0 := by
    intro h'
    rw [Nat.div_eq_zero_iff] at h'
    omega
  have hn : n ≠ 0 := by omega
  obtain ⟨a, b⟩ := (Nat.log2_eq_iff h0).1 rfl
  rw [Nat.log2_eq_iff hn]
  rw [Nat.le_div_iff_mul_le hp] at a
  rw [Nat.div_lt_iff_lt_mul hp] at b
  constructor
  · rw [Nat.pow_add]; exact a
  · rw [show Nat.log2 (n / 2 ^ k) + k + 1 = Nat.log2 (n / 2 ^ k) + 1 + k by omega, Nat.pow_add]; exact b
def lenF : SpecF := fun xs T => match xs, T with
  | [.int .u64 n], [] => [(decide (0 < n ∧ n < 4294967296), .int .i64 ((Nat.log2 n.toNat + 1 : Nat) : Int), [])]
  | _, _ => []
theorem len_known : Known Tryd.prog hint 46 lenF := by
  refine known_of fits (spec := tab []) tab_nil loops_none ?_
  intro xs T v T1 h
  unfold lenF at h
  split at h
  · rename_i n
    simp only [List.mem_cons, List.not_mem_nil, or_false, Prod.mk.injEq, Bool.true_eq, decide_eq_true_eq] at h
    obtain ⟨h1, rfl, rfl⟩ := h
    obtain ⟨m, rfl⟩ : ∃ m : Nat, n = m := ⟨n.toNat, by omega⟩
    refine ⟨30, (len_tree _).trans ?_⟩
    have g1 : decide ((m : Int) ≥ 4294967296) = false := by simp; omega
    rw [g1, cond_false]
    simp only [n_sh16, n_sh8, n_u8, Int.toNat_natCast]
    have c1 : decide ((m : Int) ≥ 65536) = decide (65536 ≤ m) := by rw [Bool.eq_iff_iff]; simp; omega
    have c2 : decide (((m / 65536 : Nat) : Int) ≥ 256) = decide (256 ≤ m / 65536) := by rw [Bool.eq_iff_iff]; simp; omega
    have c3 : decide ((m : Int) ≥ 256) = decide (256 ≤ m) := by rw [Bool.eq_iff_iff]; simp; omega
    rw [c1, c2, c3]
    have k1 : ∀ t : Nat, t < 300 → IntKind.i64.wrap (IntKind.i64.wrap (IntKind.i64.wrap ((0 : Int) + 16) + 8) + IntKind.i64.wrap ((t : Nat) : Int)) = ((t + 24 : Nat) : Int) := by intro t ht; simp only [wrap_i64]; omega
    have k2 : ∀ t : Nat, t < 300 → IntKind.i64.wrap (IntKind.i64.wrap ((0 : Int) + 16) + IntKind.i64.wrap ((t : Nat) : Int)) = ((t + 16 : Nat) : Int) := by intro t ht; simp only [wrap_i64]; omega
    have k3 : ∀ t : Nat, t < 300 → IntKind.i64.wrap (IntKind.i64.wrap ((0 : Int) + 8) + IntKind.i64.wrap ((t : Nat) : Int)) = ((t + 8 : Nat) : Int) := by intro t ht; simp only [wrap_i64]; omega
    have k4 : ∀ t : Nat, t < 300 → IntKind.i64.wrap ((0 : Int) + IntKind.i64.wrap ((t : Nat) : Int)) = ((t : Nat) : Int) := by intro t ht; simp only [wrap_i64]; omega
    have lt : ∀ b : UInt8, b.toNat < 300 := fun b => Nat.lt_trans (UInt8.toNat_lt b) (by decide)
    by_cases h2 : 65536 ≤ m
    · by_cases h3 : 256 ≤ m / 65536
      · simp only [h2, h3, decide_true, cond_true]
        rw [n_in (show m / 65536 / 256 % 256 < 256 by omega), k1 _ (lt _), len8 (by omega) (by omega), log_sh (k := 24) (show 2 ^ 24 ≤ m by omega), show m / 65536 / 256 % 256 = m / 2 ^ 24 by omega]
        rfl
      · simp only [h2, h3, decide_true, decide_false, cond_true, cond_false]
        rw [n_in (show m / 65536 % 256 < 256 by omega), k2 _ (lt _), len8 (by omega) (by omega), log_sh (k := 16) (show 2 ^ 16 ≤ m by omega), show m / 65536 % 256 = m / 2 ^ 16 by omega]
        rfl
    · by_cases h3 : 256 ≤ m
      · simp only [h2, h3, decide_true, decide_false, cond_true, cond_false]
        rw [n_in (show m / 256 % 256 < 256 by omega), k3 _ (lt _), len8 (by omega) (by omega), log_sh (k := 8) (show 2 ^ 8 ≤ m by omega), show m / 256 % 256 = m / 2 ^ 8 by omega]
        rfl
      · simp only [h2, h3, decide_false, cond_false]
        rw [n_in (show m % 256 < 256 by omega), k4 _ (lt _), len8 (by omega) (by omega), show m % 256 = m by omega]
        rfl
  · cases h

/-! ### How many digits -/
def ndG (n : Nat) : Nat := if n < 1000 then 3 else if n < 10000 then 4 else if n < 100000 then 5 else if n < 1000000 then 6 else if n < 10000000 then 7 else if n < 100000000 then 8 else if n < 1000000000 then 9 else 10
theorem nd_pow {m p : Nat} (h1 : 10 ^ p ≤ m) (h2 : m < 10 ^ (p + 1)) (h3 : 2 ≤ p) (h4 : p ≤ 9) : ndG m = p + 1 := by
  have : p = 2 ∨ p = 3 ∨ p = 4 ∨ p = 5 ∨ p = 6 ∨ p = 7 ∨ p = 8 ∨ p = 9 := by omega
  rcases this with rfl | rfl | rfl | rfl | rfl | rfl | rfl | rfl <;> simp only [ndG] <;> (repeat' split) <;> omega
theorem nd_log {m L p : Nat} (hp : p = (L + 1) * 78913 / 262144) (lo : 6 ≤ L) (hi : L ≤ 31) (a : 2 ^ L ≤ m) (b : m < 2 ^ (L + 1)) (hm : 100 ≤ m) : ndG m = if 10 ^ p ≤ m then p + 1 else p := by
  have key : ∀ L, L ≤ 31 → 6 ≤ L → 10 ^ ((L + 1) * 78913 / 262144 - 1) ≤ 2 ^ L ∧ 2 ^ (L + 1) ≤ 10 ^ ((L + 1) * 78913 / 262144 + 1) ∧ 2 ≤ (L + 1) * 78913 / 262144 := by decide +kernel
  obtain ⟨k1, k2, k3⟩ := key L hi lo
  rw [← hp] at k1 k2 k3
  have h9 : p ≤ 9 := by omega
  split
  · rename_i h
    exact nd_pow h (by omega) k3 h9
  · rename_i h
    have h2 : p ≠ 2 := by rintro rfl; omega
    have e : p - 1 + 1 = p := by omega
    have := nd_pow (m := m) (p := p - 1) (by omega) (by rw [e]; omega) (by omega) (by omega)
    rw [this, e]
abbrev tabN (l : Int → Int) : FuncId → Option SpecF := tab [(46, fun xs T => match xs, T with
  | [.int .u64 n], [] => [(decide (0 < n ∧ n < 4294967296), .int .i64 (l n), [])]
  | _, _ => [])]
theorem num_tree (x : Int) (l : Int → Int) : C (tabN l) 48 [.int .u64 x] =
  (bif decide ((0 : Int) < x ∧ x < (4294967296 : Int)) then
     bif
         decide
           ((0 : Int) ≤ (IntKind.i64.wrap (l x * (78913 : Int))).fdiv ((2 : Int) ^ (18 : Nat)) ∧
             (IntKind.i64.wrap (l x * (78913 : Int))).fdiv ((2 : Int) ^ (18 : Nat)) < (↑(20 : Nat) : Int)) then
       bif
           isOf (LT.i IntKind.u64)
             (nthD
               (List.drop (((IntKind.i64.wrap (l x * (78913 : Int))).fdiv ((2 : Int) ^ (18 : Nat))).toNat * (1 : Nat))
                 (List.map (IV.int IntKind.u64) pow10))
               (0 : Nat)) then
         bif
             decide
               (x ≥
                 intOf
                   (nthD
                     (List.drop
                       (((IntKind.i64.wrap (l x * (78913 : Int))).fdiv ((2 : Int) ^ (18 : Nat))).toNat * (1 : Nat))
                       (List.map (IV.int IntKind.u64) pow10))
                     (0 : Nat))) then
           some
             (IV.int IntKind.i64
                 (IntKind.i64.wrap ((IntKind.i64.wrap (l x * (78913 : Int))).fdiv ((2 : Int) ^ (18 : Nat)) + (1 : Int))),
               [])
         else
           some
             (IV.int IntKind.i64
                 (IntKind.i64.wrap ((IntKind.i64.wrap (l x * (78913 : Int))).fdiv ((2 : Int) ^ (18 : Nat)) + (0 : Int))),
               [])
       else none
     else none
   else none) := by kernel_rfl
def numF (k : Nat) : SpecF := fun xs T => match xs, T with
  | [.int .u64 n], [] => [(decide (100 ≤ n ∧ n < 4294967296 ∧ ndG n.toNat = k), .int .i64 (k : Nat), [])]
  | _, _ => []
theorem num_known (k : Nat) : Known Tryd.prog hint 48 (numF k) := by
  refine known_of fits (spec := tabN fun n => ((Nat.log2 n.toNat + 1 : Nat) : Int)) (tab_cons len_known tab_nil) loops_none ?_
  intro xs T v T1 h
  unfold numF at h
  split at h
  · rename_i n
    simp only [List.mem_cons, List.not_mem_nil, or_false, Prod.mk.injEq, Bool.true_eq, decide_eq_true_eq] at h
    obtain ⟨⟨h1, h2, h3⟩, rfl, rfl⟩ := h
    obtain ⟨m, rfl⟩ : ∃ m : Nat, n = m := ⟨n.toNat, by omega⟩
    refine ⟨30, (num_tree _ _).trans ?_⟩
    rw [Int.toNat_natCast] at h3 ⊢
    subst h3
    have g1 : decide ((0 : Int) < (m : Int) ∧ (m : Int) < 4294967296) = true := by simp; omega
    rw [g1]
    have hne : m ≠ 0 := by omega
    obtain ⟨a, b⟩ := (Nat.log2_eq_iff hne).1 rfl
    have lo : 6 ≤ Nat.log2 m := by
      rcases Nat.lt_or_ge (Nat.log2 m) 6 with h | h
      · have := Nat.pow_le_pow_right (show 0 < 2 by decide) (show Nat.log2 m + 1 ≤ 6 by omega)
        omega
      · exact h
    have hi : Nat.log2 m ≤ 31 := by
      rcases Nat.lt_or_ge 31 (Nat.log2 m) with h | h
      · have := Nat.pow_le_pow_right (show 0 < 2 by decide) (show 32 ≤ Nat.log2 m by omega)
        omega
      · exact h
    generalize Nat.log2 m = L at *
    obtain ⟨p, hp⟩ : ∃ p, p = (L + 1) * 78913 / 262144 := ⟨_, rfl⟩
    have hp9 : p ≤ 9 := by omega
    have e1 : IntKind.i64.wrap (((L + 1 : Nat) : Int) * 78913) = (((L + 1) * 78913 : Nat) : Int) := by rw [wrap_i64]; omega
    simp only [e1, n_sh18, ← hp, Int.toNat_natCast]
    have e2 : nthD (List.drop (p * 1) (List.map (IV.int IntKind.u64) pow10)) 0 = .int .u64 ((10 ^ p : Nat) : Int) := by
      have : p = 0 ∨ p = 1 ∨ p = 2 ∨ p = 3 ∨ p = 4 ∨ p = 5 ∨ p = 6 ∨ p = 7 ∨ p = 8 ∨ p = 9 := by omega
      rcases this with rfl | rfl | rfl | rfl | rfl | rfl | rfl | rfl | rfl | rfl <;> rfl
    rw [e2, isOf_int, intOf_int, n_in (show p < 20 by omega)]
    have e3 : decide ((m : Int) ≥ ((10 ^ p : Nat) : Int)) = decide (10 ^ p ≤ m) := by rw [Bool.eq_iff_iff]; simp only [decide_eq_true_eq]; omega
    have e4 : IntKind.i64.wrap ((p : Int) + 1) = ((p + 1 : Nat) : Int) := by rw [wrap_i64]; omega
    have e5 : IntKind.i64.wrap ((p : Int) + 0) = ((p : Nat) : Int) := by rw [wrap_i64]; omega
    rw [e3, e4, e5, nd_log hp lo hi a b (by omega)]
    by_cases h : 10 ^ p ≤ m <;> simp only [h, decide_true, decide_false, cond_true, cond_false, if_true, if_false]
  · cases h
end Go.Proofs.YthnleapnhkkeoaaDoor
