/- Bytes that are numbers, and rows with their lengths: plain laws. It bears no condition. -/
import Derived.Test.YtphddjolipaejaaWjA
namespace Go.Proofs.Ytphddjolipaejaa
open Go Go.Im
set_option linter.unusedVariables false
set_option linter.unusedSimpArgs false
noncomputable section

/-! ### Numbers -/
theorem foldl_num : ∀ (l : List UInt8) (a : Nat), l.foldl (fun n b => n * 256 + b.toNat) a = a * 256 ^ l.length + numL l
  | [], a => by simp [numL]
  | b :: l, a => by
    have h1 := foldl_num l (a * 256 + b.toNat)
    have h2 := foldl_num l (0 * 256 + b.toNat)
    simp only [numL, List.foldl_cons] at h2 ⊢
    simp only [numL] at h1
    rw [h1, h2, List.length_cons, Nat.pow_succ, Nat.zero_mul, Nat.zero_add, Nat.add_mul, Nat.mul_assoc, Nat.mul_comm 256, Nat.add_assoc]
theorem numL_cons (b : UInt8) (l : List UInt8) : numL (b :: l) = b.toNat * 256 ^ l.length + numL l := by
  have := foldl_num l (0 * 256 + b.toNat)
  simp only [numL, List.foldl_cons] at this ⊢
  rw [this, Nat.zero_mul, Nat.zero_add]
theorem byteAt_nat (x i : Nat) : (byteAt (x : Int) i).toNat = x / 256 ^ i % 256 := by
  have h := u8of_toNat ((x : Int) / ((256 ^ i : Nat) : Int))
  have e : (x : Int) / ((256 ^ i : Nat) : Int) % 256 = ((x / 256 ^ i % 256 : Nat) : Int) := by simp
  rw [e] at h
  exact Int.ofNat_inj.1 h
theorem num_be (x : Nat) : ∀ n : Nat, numL (be n (x : Int)) = x % 256 ^ n
  | 0 => by simp [be, numL, Nat.mod_one]
  | n + 1 => by
    rw [be, numL_cons, be_len, num_be x n, byteAt_nat, Nat.pow_succ, Nat.mod_mul, Nat.mul_comm, Nat.add_comm]
theorem numL_inj : ∀ {l m : List UInt8}, l.length = m.length → numL l = numL m → l = m
  | [], [], _, _ => rfl
  | [], _ :: _, h, _ => by cases h
  | _ :: _, [], h, _ => by cases h
  | b :: l, c :: m, h, e => by
    have hl : l.length = m.length := by simpa using h
    rw [numL_cons, numL_cons, hl] at e
    have h1 := numL_lt l
    have h2 := numL_lt m
    rw [hl] at h1
    have hp : 0 < 256 ^ m.length := Nat.lt_of_le_of_lt (Nat.zero_le _) h2
    have e1 : b.toNat = c.toNat := by
      have a1 : (b.toNat * 256 ^ m.length + numL l) / 256 ^ m.length = b.toNat := by rw [Nat.mul_comm, Nat.mul_add_div hp, Nat.div_eq_of_lt h1, Nat.add_zero]
      have a2 : (c.toNat * 256 ^ m.length + numL m) / 256 ^ m.length = c.toNat := by rw [Nat.mul_comm, Nat.mul_add_div hp, Nat.div_eq_of_lt h2, Nat.add_zero]
      rw [← a1, ← a2, e]
    have e2 : numL l = numL m := by rw [e1] at e; exact Nat.add_left_cancel e
    rw [UInt8.toNat_inj.1 e1, numL_inj hl e2]
theorem be_num (l : List UInt8) : be l.length ((numL l : Nat) : Int) = l :=
  numL_inj (be_len _ _) (by rw [num_be, Nat.mod_eq_of_lt (numL_lt l)])
theorem get_be {n : Nat} {x : Int} (h0 : 0 ≤ x) (h1 : x < ((256 ^ n : Nat) : Int)) : getFG (u8s (be n x)) = x := by
  obtain ⟨k, rfl⟩ := Int.eq_ofNat_of_zero_le h0
  unfold getFG
  rw [toBytes_u8s, num_be, Nat.mod_eq_of_lt (Int.ofNat_lt.1 h1)]
theorem be_get {xs : List IV} (ho : okB xs = true) {n : Nat} (hn : xs.length = n) : u8s (be n (getFG xs)) = xs := by
  have h := be_num (toBytes xs)
  rw [toBytes_len, hn] at h
  unfold getFG
  rw [h]
  exact (okB_eq ho).symm
theorem getFG_nat (xs : List IV) : getFG xs = ((numL (toBytes xs) : Nat) : Int) := rfl
theorem getFG_lt (xs : List IV) : 0 ≤ getFG xs ∧ getFG xs < ((256 ^ xs.length : Nat) : Int) := by
  have := numL_lt (toBytes xs)
  rw [toBytes_len] at this
  rw [getFG_nat]
  exact ⟨Int.natCast_nonneg _, Int.ofNat_lt.2 this⟩

/-! ### Rows with their lengths -/
theorem zeroL_eq : ∀ {xs : List IV}, okB xs = true → zeroL xs = true → xs = List.replicate xs.length (.int .u8 0)
  | [], _, _ => rfl
  | x :: xs, ho, hz => by
    simp only [okB, List.all_cons, Bool.and_eq_true] at ho
    simp only [zeroL, List.all_cons, Bool.and_eq_true] at hz
    have ih := zeroL_eq (xs := xs) (by simpa [okB] using ho.2) (by simpa [zeroL] using hz.2)
    have h1 := ho.1
    split at h1
    · rename_i n
      have h2 : n = 0 := by simpa [intOf] using hz.1
      rw [h2, List.length_cons, List.replicate_succ, ← ih]
    · cases h1
theorem zeroL_rep (n : Nat) : zeroL (List.replicate n (.int .u8 0)) = true := by
  simp [zeroL, List.all_eq_true, intOf]
theorem cut_data {v r : List IV} (hl : v.length ≤ 2048) : cutN (dataL v ++ r) = v.length ∧ cutV (dataL v ++ r) = v ∧ cutR (dataL v ++ r) = r ∧ cutOK (dataL v ++ r) = true := by
  have e : dataL v ++ r = u8s (be 4 (v.length : Int)) ++ (v ++ (List.replicate (fillN v.length) (.int .u8 0) ++ r)) := by simp [dataL]
  have h4 : (u8s (be 4 (v.length : Int))).length = 4 := by simp [u8s_len, be_len]
  have hN : cutN (dataL v ++ r) = v.length := by
    unfold cutN
    rw [e, List.take_left' h4, toBytes_u8s, num_be, Nat.mod_eq_of_lt (by omega)]
  have hD : (dataL v ++ r).drop 4 = v ++ (List.replicate (fillN v.length) (.int .u8 0) ++ r) := by rw [e, List.drop_left' h4]
  have hV : cutV (dataL v ++ r) = v := by
    unfold cutV
    rw [hN, hD, List.take_left' rfl]
  have hE : ((dataL v ++ r).drop 4).drop v.length = List.replicate (fillN v.length) (.int .u8 0) ++ r := by rw [hD, List.drop_left' rfl]
  have hR : cutR (dataL v ++ r) = r := by
    unfold cutR
    rw [hN, ← List.drop_drop, hE, List.drop_left' (by simp)]
  refine ⟨hN, hV, hR, ?_⟩
  unfold cutOK cutF
  rw [hN, hE, List.take_left' (by simp), zeroL_rep, Bool.and_true, decide_eq_true_eq, List.length_append, dataL_len]
  omega
theorem okB_rep (n : Nat) : okB (List.replicate n (.int .u8 0)) = true := by
  simp [okB, List.all_eq_true]
theorem data_cut {l : List IV} (ho : okB l = true) (h : cutOK l = true) : l = dataL (cutV l) ++ cutR l ∧ (cutV l).length ≤ 2048 ∧ okB (cutV l) = true ∧ okB (cutR l) = true := by
  unfold cutOK at h
  simp only [Bool.and_eq_true, decide_eq_true_eq] at h
  obtain ⟨⟨h4, h5, h6⟩, hz⟩ := h
  have hv : (cutV l).length = cutN l := by
    simp only [cutV, List.length_take, List.length_drop]; omega
  have hF : (cutF l).length = fillN (cutN l) := by
    simp only [cutF, List.length_take, List.length_drop]; omega
  have e1 : u8s (be 4 ((cutN l : Nat) : Int)) = l.take 4 := by
    have := be_get (okB_take ho 4) (n := 4) (by simp; omega)
    rwa [getFG_nat] at this
  have e2 : cutF l = List.replicate (fillN (cutN l)) (.int .u8 0) := by
    have := zeroL_eq (xs := cutF l) (okB_take (okB_drop (okB_drop ho 4) _) _) hz
    rwa [hF] at this
  refine ⟨?_, by omega, okB_take (okB_drop ho 4) _, okB_drop (okB_drop ho 4) _⟩
  unfold dataL
  rw [hv, e1, ← e2]
  have a1 : cutF l ++ cutR l = (l.drop 4).drop (cutN l) := by
    unfold cutF cutR
    rw [← List.drop_drop, List.take_append_drop]
  have a2 : cutV l ++ (l.drop 4).drop (cutN l) = l.drop 4 := List.take_append_drop _ _
  rw [List.append_assoc, List.append_assoc, a1, a2, List.take_append_drop]
end
end Go.Proofs.Ytphddjolipaejaa
