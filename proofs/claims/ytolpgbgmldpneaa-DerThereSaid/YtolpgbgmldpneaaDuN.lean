/- Numbers there and back, in plain words. It bears no condition. -/
import Derived.Test.YtolpgbgmldpneaaDuM
namespace Go.Proofs.Ytolpgbgmldpneaa
open Go Go.Im
set_option linter.unusedVariables false
set_option linter.unusedSimpArgs false
set_option maxRecDepth 20000
noncomputable section

theorem byteI_at (a : Int) (i : Nat) : ((byteAt a i).toNat : Int) = a / ((256 ^ i : Nat) : Int) % 256 := by
  unfold byteAt
  exact u8of_toNat _
theorem num_beI (a : Int) : ∀ k : Nat, (numL (be k a) : Int) = a % ((256 ^ k : Nat) : Int)
  | 0 => by rw [Nat.pow_zero]; show (0 : Int) = a % 1; omega
  | k + 1 => by
    rw [be_one, num_cons, be_len, Int.natCast_add, Int.natCast_mul, byteI_at, num_beI a k, Nat.pow_succ, Int.natCast_mul]
    have hd : (0 : Int) < ((256 ^ k : Nat) : Int) := by have : 0 < 256 ^ k := Nat.pow_pos (by decide); omega
    generalize ((256 ^ k : Nat) : Int) = d at *
    have h1 := Int.mul_ediv_add_emod a d
    have h2 := Int.mul_ediv_add_emod (a / d) 256
    have h3 := Int.emod_nonneg a (show d ≠ 0 by omega)
    have h4 := Int.emod_lt_of_pos a hd
    have h5 := Int.emod_nonneg (a / d) (show (256 : Int) ≠ 0 by omega)
    have h6 := Int.emod_lt_of_pos (a / d) (show (0 : Int) < 256 by omega)
    generalize hq : a / d % 256 = r at *
    generalize hs : a % d = s at *
    have e : a = (r * d + s) + d * 256 * (a / d / 256) := by
      have : d * (a / d) = d * (256 * (a / d / 256)) + d * r := by rw [← Int.mul_add, h2]
      rw [Int.mul_assoc]
      have hc : r * d = d * r := Int.mul_comm _ _
      omega
    have hlt : r * d + s < d * 256 := by
      have := Int.mul_le_mul_of_nonneg_right (show r ≤ 255 by omega) (show 0 ≤ d by omega)
      omega
    have hge : 0 ≤ r * d + s := by
      have := Int.mul_nonneg h5 (show 0 ≤ d by omega)
      omega
    show r * d + s = a % (d * 256)
    rw [e, Int.add_mul_emod_self_left, Int.emod_eq_of_lt hge hlt]
theorem ediv_nat (a : Int) (m n : Nat) : a / ((m * n : Nat) : Int) = a / (m : Int) / (n : Int) := (div_div a m n).symm
theorem sgv_be {a : Int} {j : Nat} (h1 : -((128 * 256 ^ j : Nat) : Int) ≤ a) (h2 : a < ((128 * 256 ^ j : Nat) : Int)) : sgv (be (j + 1) a) = a := by
  unfold sgv sg
  rw [num_beI, be_len, Nat.pow_succ]
  have hn : negB (be (j + 1) a) = decide (a < 0) := by
    unfold negB
    rw [be_one, List.headD_cons]
    have hb := byteI_at a j
    have hd : (0 : Int) < ((256 ^ j : Nat) : Int) := by have : 0 < 256 ^ j := Nat.pow_pos (by decide); omega
    rw [Int.natCast_mul] at h1 h2
    generalize ((256 ^ j : Nat) : Int) = d at *
    have q1 : -128 ≤ a / d := Int.le_ediv_of_mul_le hd (by rw [show ((128 : Nat) : Int) = 128 from rfl] at h1; omega)
    have q2 : a / d < 128 := Int.ediv_lt_of_lt_mul hd (by rw [show ((128 : Nat) : Int) = 128 from rfl] at h2; omega)
    have q3 : a / d < 0 ↔ a < 0 := ⟨fun h => by
      by_cases h0 : a < 0
      · exact h0
      · have := Int.ediv_nonneg (show 0 ≤ a by omega) (show 0 ≤ d by omega); omega, fun h => Int.ediv_neg_of_neg_of_pos h hd⟩
    exact decide_eq_decide.2 ⟨fun h => by omega, fun h => by omega⟩
  rw [hn]
  generalize hp : 256 ^ j = p at *
  by_cases h : a < 0
  · rw [decide_eq_true h, cond_true]
    have : a % ((p * 256 : Nat) : Int) = a + ((p * 256 : Nat) : Int) := by
      rw [← Int.add_emod_right, Int.emod_eq_of_lt (by omega) (by omega)]
    omega
  · rw [decide_eq_false h, cond_false, Int.emod_eq_of_lt (by omega) (by omega)]
    omega
theorem kI_range {a : Int} {j : Nat} (h : inR a j = true) : -((128 * 256 ^ j : Nat) : Int) ≤ a ∧ a < ((128 * 256 ^ j : Nat) : Int) := by
  unfold inR at h
  have hd : (0 : Int) < ((128 * 256 ^ j : Nat) : Int) := by have : 0 < 256 ^ j := Nat.pow_pos (by decide); omega
  generalize ((128 * 256 ^ j : Nat) : Int) = d at *
  rw [Bool.or_eq_true, beq_iff_eq, beq_iff_eq] at h
  have h1 := Int.mul_ediv_add_emod a d
  have h3 := Int.emod_nonneg a (show d ≠ 0 by omega)
  have h4 := Int.emod_lt_of_pos a hd
  rcases h with h | h <;> rw [h] at h1 <;> omega
theorem fits2_two (x y : UInt8) (r : List UInt8) : fitsB 2 (x :: y :: r) = (!(x.toNat == 0 && decide (y.toNat < 128)) && !(x.toNat == 255 && decide (128 ≤ y.toNat))) := rfl
theorem fits2_of {x y : UInt8} {r : List UInt8} (h1 : ¬ (x.toNat = 0 ∧ y.toNat < 128)) (h2 : ¬ (x.toNat = 255 ∧ 128 ≤ y.toNat)) : fitsB 2 (x :: y :: r) = true := by
  rw [fits2_two]
  have e1 : (x.toNat == 0 && decide (y.toNat < 128)) = false := by
    cases hx : x.toNat == 0
    · rfl
    · rw [Bool.true_and]; exact decide_eq_false fun h => h1 ⟨eq_of_beq hx, h⟩
  have e2 : (x.toNat == 255 && decide (128 ≤ y.toNat)) = false := by
    cases hx : x.toNat == 255
    · rfl
    · rw [Bool.true_and]; exact decide_eq_false fun h => h2 ⟨eq_of_beq hx, h⟩
  rw [e1, e2]
  rfl
theorem int_fits {a : Int} (h0 : -9223372036854775808 ≤ a) (h1 : a ≤ 9223372036854775807) : fitsB 2 (be (kI a) a) = true ∧ sgv (be (kI a) a) = a := by
  have hy := kI_yes h0 h1
  have hk := kI_le a
  obtain ⟨j, hj⟩ : ∃ j, kI a = j + 1 := ⟨kI a - 1, by omega⟩
  rw [hj, Nat.add_sub_cancel] at hy
  have hr := kI_range hy
  rw [hj]
  refine ⟨?_, sgv_be hr.1 hr.2⟩
  cases j with
  | zero => rfl
  | succ i =>
    have hn := kI_no (a := a) (j := i) (by omega)
    unfold inR at hn hy
    rw [Bool.or_eq_false_iff, beq_eq_false_iff_ne, beq_eq_false_iff_ne] at hn
    rw [Bool.or_eq_true, beq_iff_eq, beq_iff_eq] at hy
    rw [be_one, be_one]
    have b0 := byteI_at a (i + 1)
    have b1 := byteI_at a i
    rw [Nat.pow_succ, ediv_nat] at b0
    rw [Nat.mul_comm, ediv_nat] at hn
    rw [Nat.pow_succ, show 128 * (256 ^ i * 256) = 256 ^ i * 32768 by omega, ediv_nat] at hy
    generalize a / ((256 ^ i : Nat) : Int) = q at *
    have := (byteAt a (i + 1)).toNat_lt
    have := (byteAt a i).toNat_lt
    refine fits2_of ?_ ?_ <;> omega
theorem nb_fits (n : Nat) : fitsB 2 (nb n) = true ∧ negB (nb n) = false := by
  have hp := kN_pos n
  obtain ⟨j, hj⟩ : ∃ j, kN n = j + 1 := ⟨kN n - 1, by omega⟩
  have hu := (kN_le (n := n) (k := j + 1) (by omega)).1 (by omega)
  rw [Nat.add_sub_cancel] at hu
  unfold nb
  rw [hj]
  have hd : 0 < 256 ^ j := Nat.pow_pos (by decide)
  have hq : n / 256 ^ j < 128 := (Nat.div_lt_iff_lt_mul hd).2 hu
  refine ⟨?_, ?_⟩
  · cases j with
    | zero => rfl
    | succ i =>
      have hl : ¬ kN n ≤ i + 1 := by omega
      rw [kN_le (by omega), Nat.add_sub_cancel] at hl
      have hd2 : 0 < 256 ^ i := Nat.pow_pos (by decide)
      have hq2 : ¬ n / 256 ^ i < 128 := fun h => hl ((Nat.div_lt_iff_lt_mul hd2).1 h)
      rw [be_one, be_one]
      have b0 := byteAt_toNat n (i + 1)
      have b1 := byteAt_toNat n i
      rw [div_pow_succ] at b0 hq
      generalize n / 256 ^ i = q at *
      refine fits2_of ?_ ?_ <;> omega
  · unfold negB
    rw [be_one, List.headD_cons, byteAt_toNat]
    generalize n / 256 ^ j = q at *
    exact decide_eq_false (by omega)
end
end Go.Proofs.Ytolpgbgmldpneaa
