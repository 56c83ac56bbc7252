/- Whose text a text is: plain laws. It bears no condition. -/
import Derived.Test.YthnleapnhkkeoaaDoorSpL
namespace Go.Proofs.YthnleapnhkkeoaaDoor
open Go Go.Im
set_option linter.unusedVariables false
set_option linter.unusedSimpArgs false
noncomputable section

/-! ### Digits and numbers -/
def val (l : List UInt8) : Nat := l.foldl (fun n b => 10 * n + (b.toNat - 48)) 0
theorem val_snoc (l : List UInt8) (b : UInt8) : val (l ++ [b]) = 10 * val l + (b.toNat - 48) := by simp [val]
theorem foldl_val : ∀ (l : List UInt8) (a : Nat), l.foldl (fun n b => 10 * n + (b.toNat - 48)) a = a * 10 ^ l.length + val l
  | [], a => by simp [val]
  | b :: l, a => by
    have h1 := foldl_val l (10 * a + (b.toNat - 48))
    have h2 := foldl_val l (10 * 0 + (b.toNat - 48))
    simp only [val, List.foldl_cons] at h2 ⊢
    simp only [val] at h1
    rw [h1, h2, List.length_cons, Nat.pow_succ, Nat.mul_zero, Nat.zero_add, Nat.add_mul, Nat.add_assoc, Nat.mul_comm 10 a, Nat.mul_assoc, Nat.mul_comm 10]
theorem val_cons (b : UInt8) (l : List UInt8) : val (b :: l) = (b.toNat - 48) * 10 ^ l.length + val l := by
  have := foldl_val l (10 * 0 + (b.toNat - 48))
  simp only [val, List.foldl_cons] at this ⊢
  rw [this, Nat.mul_zero, Nat.zero_add]
def isDg (b : UInt8) : Prop := 48 ≤ b.toNat ∧ b.toNat ≤ 57
theorem val_lt : ∀ {l : List UInt8}, (∀ b ∈ l, isDg b) → val l < 10 ^ l.length
  | [], _ => by simp [val]
  | b :: l, h => by
    have h1 := h b (List.mem_cons_self ..)
    have h2 := val_lt (l := l) fun c hc => h c (List.mem_cons_of_mem _ hc)
    unfold isDg at h1
    rw [val_cons, List.length_cons, Nat.pow_succ]
    have h3 : (b.toNat - 48) * 10 ^ l.length ≤ 9 * 10 ^ l.length := Nat.mul_le_mul_right _ (by omega)
    omega
theorem dig_dg {n : Nat} (h : n < 10) : isDg (dig n) := by unfold isDg; rw [dig_cell h]; omega
theorem decL_dg (n : Nat) : ∀ b ∈ decL n, isDg b := by
  rcases Nat.lt_or_ge n 10 with h | h
  · rw [decL_lt h]
    intro b hb
    rw [List.mem_singleton.1 hb]
    exact dig_dg h
  · rw [decL_ge h]
    intro b hb
    rcases List.mem_append.1 hb with hb | hb
    · exact decL_dg (n / 10) b hb
    · rw [List.mem_singleton.1 hb]
      exact dig_dg (by omega)
termination_by n
decreasing_by omega
theorem val_decL (n : Nat) : val (decL n) = n := by
  rcases Nat.lt_or_ge n 10 with h | h
  · rw [decL_lt h]
    show 10 * 0 + ((dig n).toNat - 48) = n
    rw [dig_cell h]; omega
  · rw [decL_ge h, val_snoc, val_decL (n / 10), dig_cell (show n % 10 < 10 by omega)]
    omega
termination_by n
decreasing_by omega
theorem decL_pos (n : Nat) : 1 ≤ (decL n).length := by
  rcases Nat.lt_or_ge n 10 with h | h
  · rw [decL_lt h]; simp
  · rw [decL_ge h]; simp
theorem decL_lead (n : Nat) (h1 : 1 ≤ n) : ((decL n).getD 0 0).toNat ≠ 48 := by
  rcases Nat.lt_or_ge n 10 with h | h
  · rw [decL_lt h]
    show (dig n).toNat ≠ 48
    rw [dig_cell h]; omega
  · have ih := decL_lead (n / 10) (by omega)
    have hp := decL_pos (n / 10)
    rw [decL_ge h]
    rw [List.getD_eq_getElem?_getD, List.getElem?_append_left (by omega), ← List.getD_eq_getElem?_getD]
    exact ih
termination_by n
decreasing_by omega
theorem decL_one {n : Nat} (h : (decL n).length ≠ 1) : 10 ≤ n := by
  rcases Nat.lt_or_ge n 10 with h' | h'
  · rw [decL_lt h'] at h; exact absurd rfl h
  · exact h'
theorem dig_eq {b : UInt8} (h : isDg b) : dig (b.toNat - 48) = b := by
  unfold isDg at h
  apply UInt8.toNat_inj.1
  rw [dig_cell (by omega)]; omega
theorem val_pos : ∀ {l : List UInt8}, (∀ b ∈ l, isDg b) → l ≠ [] → (l.getD 0 0).toNat ≠ 48 → 1 ≤ val l
  | [], _, h, _ => absurd rfl h
  | b :: l, h, _, h0 => by
    have h1 := h b (List.mem_cons_self ..)
    unfold isDg at h1
    have h2 : b.toNat ≠ 48 := h0
    rw [val_cons]
    have : 1 * 1 ≤ (b.toNat - 48) * 10 ^ l.length := Nat.mul_le_mul (by omega) (Nat.pow_pos (by decide))
    omega
/-- By how many digits there are. -/
theorem decL_val : ∀ (n : Nat) {l : List UInt8}, l.length = n → (∀ b ∈ l, isDg b) → l ≠ [] → (l.length = 1 ∨ (l.getD 0 0).toNat ≠ 48) → decL (val l) = l
  | 0, l, hn, _, h, _ => absurd (List.length_eq_zero_iff.1 hn) h
  | n + 1, l, hn, hd, h, h0 => by
    obtain ⟨l', b, rfl⟩ : ∃ l' b, l = l' ++ [b] := ⟨l.dropLast, l.getLast h, (List.dropLast_concat_getLast h).symm⟩
    have hb := hd b (by simp)
    have hl : l'.length = n := by simpa using hn
    have hd' : ∀ c ∈ l', isDg c := fun c hc => hd c (by simp [hc])
    rw [val_snoc]
    have hb' := hb
    unfold isDg at hb'
    by_cases e : l' = []
    · subst e
      have : 10 * val [] + (b.toNat - 48) = b.toNat - 48 := by simp [val]
      rw [this, decL_lt (by omega), dig_eq hb]
      rfl
    · have hlen : 1 ≤ l'.length := by
        cases l' with
        | nil => exact absurd rfl e
        | cons c l' => simp
      have hz : (l'.getD 0 0).toNat ≠ 48 := by
        rcases h0 with h0 | h0
        · simp at h0; exact absurd h0 e
        · rw [List.getD_eq_getElem?_getD, List.getElem?_append_left (by omega), ← List.getD_eq_getElem?_getD] at h0
          exact h0
      have hv := val_pos hd' e hz
      have ih := decL_val n hl hd' e (.inr hz)
      rw [decL_ge (by omega), show (10 * val l' + (b.toNat - 48)) / 10 = val l' by omega, show (10 * val l' + (b.toNat - 48)) % 10 = b.toNat - 48 by omega, ih, dig_eq hb]
def tenD : Nat → Nat → List UInt8
  | 0, _ => []
  | k + 1, N => tenD k (N / 10) ++ [dig (N % 10)]
theorem val_tenD : ∀ k N, val (tenD k N) = N % 10 ^ k
  | 0, N => by simp [tenD, val, Nat.mod_one]
  | k + 1, N => by
    rw [tenD, val_snoc, val_tenD k, dig_cell (show N % 10 < 10 by omega), Nat.pow_succ, Nat.mul_comm (10 ^ k), Nat.mod_mul]
    omega
theorem ten_D (N : Nat) : tenL N = tenD 10 N := by
  simp only [tenL, tenD, List.nil_append, List.cons_append, Nat.div_div_eq_div_mul, Nat.reduceMul, Nat.div_one]
theorem val_ten {N : Nat} (h : N < 10000000000) : val (tenL N) = N := by
  rw [ten_D, val_tenD]
  exact Nat.mod_eq_of_lt h
theorem ten_dg (N : Nat) : ∀ b ∈ tenL N, isDg b := by
  have e : ∀ n : Nat, isDg (dig (n % 10)) := fun n => dig_dg (by omega)
  intro b hb
  simp only [tenL, List.mem_cons, List.not_mem_nil, or_false] at hb
  rcases hb with rfl | rfl | rfl | rfl | rfl | rfl | rfl | rfl | rfl | rfl <;> exact e _
theorem ten_len (N : Nat) : (tenL N).length = 10 := rfl

/-! ### Which text is ahead -/
theorem less_val : ∀ {l m : List UInt8}, l.length = m.length → (∀ b ∈ l, isDg b) → (∀ b ∈ m, isDg b) → Op.bytesLess l m = decide (val l < val m)
  | [], [], _, _, _ => by simp [Op.bytesLess, val]
  | [], _ :: _, h, _, _ => by cases h
  | _ :: _, [], h, _, _ => by cases h
  | b :: l, c :: m, h, hb, hc => by
    have hl : l.length = m.length := by simpa using h
    have h1 := hb b (List.mem_cons_self ..)
    have h2 := hc c (List.mem_cons_self ..)
    have hb' : ∀ b ∈ l, isDg b := fun x hx => hb x (List.mem_cons_of_mem _ hx)
    have hc' : ∀ b ∈ m, isDg b := fun x hx => hc x (List.mem_cons_of_mem _ hx)
    have ih := less_val hl hb' hc'
    have v1 := val_lt hb'
    have v2 := val_lt hc'
    unfold isDg at h1 h2
    rw [val_cons, val_cons, hl] at *
    unfold Op.bytesLess
    rw [ih]
    generalize 10 ^ m.length = P at *
    rcases Nat.lt_trichotomy b.toNat c.toNat with hlt | heq | hgt
    · have e : (b.toNat - 48 + 1) * P ≤ (c.toNat - 48) * P := Nat.mul_le_mul_right _ (by omega)
      rw [Nat.add_mul] at e
      rw [decide_eq_true (UInt8.lt_iff_toNat_lt.2 hlt), Bool.true_or, decide_eq_true (by omega)]
    · have e : b = c := UInt8.toNat_inj.1 heq
      subst e
      rw [decide_eq_false (by simp), beq_self_eq_true, Bool.false_or, Bool.true_and]
      rw [Bool.eq_iff_iff, decide_eq_true_eq, decide_eq_true_eq]
      omega
    · have e : (c.toNat - 48 + 1) * P ≤ (b.toNat - 48) * P := Nat.mul_le_mul_right _ (by omega)
      rw [Nat.add_mul] at e
      have hn : ¬ b < c := fun hlt => by have := UInt8.lt_iff_toNat_lt.1 hlt; omega
      have hne : (b == c) = false := beq_eq_false_iff_ne.2 fun e => by subst e; omega
      rw [decide_eq_false hn, hne, Bool.false_and, Bool.false_or, decide_eq_false (by omega)]
theorem less_app : ∀ (p l m : List UInt8), Op.bytesLess (p ++ l) (p ++ m) = Op.bytesLess l m
  | [], l, m => rfl
  | b :: p, l, m => by
    show (decide (b < b) || (b == b && Op.bytesLess (p ++ l) (p ++ m))) = _
    rw [less_app p l m, decide_eq_false (by simp), beq_self_eq_true, Bool.false_or, Bool.true_and]
theorem prN_mono {p q : Nat} (h : p < q) : prN p < prN q := by unfold prN; omega
theorem ten_inj {a b : Nat} (ha : a < 10000000000) (hb : b < 10000000000) (h : tenL a = tenL b) : a = b := by rw [← val_ten ha, ← val_ten hb, h]
theorem leL_print {x t : Nat} (h : x / 4294967296 = t / 4294967296) : leL (printL x) (printL t) = decide (x ≤ t) := by
  unfold leL printL
  rw [h, less_app]
  have hx : x % 4294967296 < 4294967296 := by omega
  have ht : t % 4294967296 < 4294967296 := by omega
  have nx := prN_lt hx
  have nt := prN_lt ht
  rw [less_val (l := tenL (prN (x % 4294967296))) (m := tenL (prN (t % 4294967296))) ((ten_len _).trans (ten_len _).symm) (ten_dg _) (ten_dg _), val_ten nx, val_ten nt]
  rcases Nat.lt_trichotomy (x % 4294967296) (t % 4294967296) with hlt | heq | hgt
  · rw [decide_eq_true (prN_mono hlt), Bool.true_or, decide_eq_true (by omega)]
  · rw [heq, beq_self_eq_true, Bool.or_true, decide_eq_true (by omega)]
  · have hm := prN_mono hgt
    rw [decide_eq_false (by omega), Bool.false_or, decide_eq_false (show ¬ x ≤ t by omega), beq_eq_false_iff_ne]
    intro e
    have := ten_inj nx nt (List.append_cancel_left e)
    omega
theorem bs_find {t : Nat} : ∀ k hi, k ≤ 32 → hi = t % 4294967296 / 2 ^ k * 2 ^ k → bsN (printL t) k (t / 4294967296 * 4294967296 + hi) = t
  | 0, hi, _, h => by
    unfold bsN
    rw [Nat.pow_zero, Nat.div_one, Nat.mul_one] at h
    omega
  | k + 1, hi, hk, h => by
    have hp := Nat.two_pow_pos k
    have hp2 : 2 ^ (k + 1) = 2 ^ k * 2 := Nat.pow_succ ..
    have hq : t % 4294967296 / 2 ^ (k + 1) = t % 4294967296 / 2 ^ k / 2 := by rw [hp2, Nat.div_div_eq_div_mul]
    have hd : 2 ^ k * (t % 4294967296 / 2 ^ k) + t % 4294967296 % 2 ^ k = t % 4294967296 := Nat.div_add_mod ..
    have hr : t % 4294967296 % 2 ^ k < 2 ^ k := Nat.mod_lt _ hp
    have h32 : ∃ c, 4294967296 = c * (2 ^ k * 2) := by
      refine ⟨2 ^ (31 - k), ?_⟩
      rw [← hp2, ← Nat.pow_add, show 31 - k + (k + 1) = 32 by omega]
    obtain ⟨c, hc⟩ := h32
    have hlt : t % 4294967296 < 4294967296 := by omega
    rw [hq, hp2] at h
    generalize ha : t % 4294967296 / 2 ^ k = a at *
    generalize t % 4294967296 % 2 ^ k = r at *
    have ea : a = a / 2 * 2 ∨ a = a / 2 * 2 + 1 := by omega
    have e1 : a / 2 * (2 ^ k * 2) = 2 * (a / 2 * 2 ^ k) := by rw [← Nat.mul_assoc, Nat.mul_comm]
    have hub : hi + 2 ^ k < 4294967296 := by
      have hac : a / 2 < c := by
        rcases Nat.lt_or_ge (a / 2) c with h' | h'
        · exact h'
        · have h3 : c * (2 ^ k * 2) ≤ a / 2 * (2 ^ k * 2) := Nat.mul_le_mul_right _ h'
          have h4 : a / 2 * 2 * 2 ^ k ≤ a * 2 ^ k := Nat.mul_le_mul_right _ (by omega)
          have h5 : a / 2 * (2 ^ k * 2) = a / 2 * 2 * 2 ^ k := by rw [Nat.mul_comm (2 ^ k) 2, Nat.mul_assoc]
          rw [Nat.mul_comm] at hd
          omega
      have h3 : (a / 2 + 1) * (2 ^ k * 2) ≤ c * (2 ^ k * 2) := Nat.mul_le_mul_right _ hac
      rw [Nat.add_mul, Nat.one_mul] at h3
      omega
    unfold bsN
    have hsec : (t / 4294967296 * 4294967296 + hi + 2 ^ k) / 4294967296 = t / 4294967296 := by omega
    rw [leL_print hsec]
    rw [e1] at h
    rw [Nat.mul_comm] at hd
    rcases ea with ea | ea
    · have e2 : a * 2 ^ k = 2 * (a / 2 * 2 ^ k) := by
        conv => lhs; rw [ea]
        rw [Nat.mul_assoc, Nat.mul_comm 2, ← Nat.mul_assoc, Nat.mul_comm]
      rw [decide_eq_false (by omega), if_neg (by simp)]
      exact bs_find k hi (by omega) (by rw [ha, e2]; exact h)
    · have e2 : a * 2 ^ k = 2 * (a / 2 * 2 ^ k) + 2 ^ k := by
        conv => lhs; rw [ea]
        rw [Nat.add_mul, Nat.one_mul, Nat.mul_assoc, Nat.mul_comm 2, ← Nat.mul_assoc, Nat.mul_comm (a / 2 * 2 ^ k)]
      rw [decide_eq_true (by omega), if_pos rfl, Nat.add_assoc]
      exact bs_find k (hi + 2 ^ k) (by omega) (by rw [ha, e2]; omega)
end
end Go.Proofs.YthnleapnhkkeoaaDoor
