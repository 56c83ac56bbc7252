/- Each text is one time's or none's: plain laws. It bears no condition. -/
import Derived.Test.YthnleapnhkkeoaaDoorSpM
namespace Go.Proofs.YthnleapnhkkeoaaDoor
open Go Go.Im
set_option linter.unusedVariables false
set_option linter.unusedSimpArgs false
noncomputable section

/-! ### The numbers of a text's parts -/
theorem take_step {s : List UInt8} {i : Nat} (h : i < s.length) : s.take (i + 1) = s.take i ++ [s.getD i 0] := by
  rw [List.take_add_one, List.getElem?_eq_getElem h, List.getD_eq_getElem?_getD, List.getElem?_eq_getElem h]; rfl
theorem sec_val {s : List UInt8} {A : Nat} (hA : A ≤ s.length) : ∀ i, secN s A i = val (s.take (min i A))
  | 0 => by simp [secN, val]
  | i + 1 => by
    unfold secN
    rw [sec_val hA i]
    by_cases hi : i < A
    · rw [if_pos hi, Nat.min_eq_left (by omega), Nat.min_eq_left (by omega), take_step (by omega), val_snoc]; rfl
    · rw [if_neg hi, Nat.min_eq_right (by omega), Nat.min_eq_right (by omega)]
theorem num_val {s : List UInt8} {A : Nat} : ∀ i, i ≤ s.length → numN s A i = val ((s.drop (A + 1)).take (i - (A + 1)))
  | 0, _ => by simp [numN, val]
  | i + 1, h => by
    unfold numN
    rw [num_val i (by omega)]
    by_cases hi : A < i
    · have hl : i - (A + 1) < (s.drop (A + 1)).length := by simp; omega
      rw [if_pos hi, show i + 1 - (A + 1) = i - (A + 1) + 1 by omega, take_step hl, val_snoc]
      have e : (s.drop (A + 1)).getD (i - (A + 1)) 0 = s.getD i 0 := by
        rw [List.getD_eq_getElem?_getD, List.getD_eq_getElem?_getD, List.getElem?_drop, show A + 1 + (i - (A + 1)) = i by omega]
      rw [e]; rfl
    · rw [if_neg hi, show i + 1 - (A + 1) = 0 by omega, show i - (A + 1) = 0 by omega]
theorem secS_val {s : List UInt8} (h : 11 ≤ s.length) : secS s = val (s.take (s.length - 11)) := by
  unfold secS
  rw [sec_val (by omega), Nat.min_eq_right (by omega)]
theorem numS_val {s : List UInt8} : numS s = val (s.drop (s.length - 11 + 1)) := by
  unfold numS
  rw [num_val _ (Nat.le_refl _), List.take_of_length_le (by simp)]
theorem getD_mem {l : List UInt8} {i : Nat} (h : i < l.length) : l.getD i 0 ∈ l := by
  rw [List.getD_eq_getElem?_getD, List.getElem?_eq_getElem h]
  exact List.getElem_mem h
theorem ten_of {l : List UInt8} (h : l.length = 10) : l = [l.getD 0 0, l.getD 1 0, l.getD 2 0, l.getD 3 0, l.getD 4 0, l.getD 5 0, l.getD 6 0, l.getD 7 0, l.getD 8 0, l.getD 9 0] := by
  match l, h with
  | [a, b, c, d, e, f, g, h, i, j], _ => rfl
theorem digB_iff {s : List UInt8} {p : Nat} (h1 : 12 ≤ s.length) (h2 : s.length ≤ 21) : digB ((p : Nat) : Int) (ceI s) = true ↔ s.drop (s.length - 11 + 1) = tenL (prN p) := by
  have hl : (s.drop (s.length - 11 + 1)).length = 10 := by simp; omega
  have hc : ∀ k, k < 10 → ceI s k = (((s.drop (s.length - 11 + 1)).getD k 0).toNat : Int) := by
    intro k hk
    unfold ceI
    rw [cell_nat _ _ hk, if_pos (by omega), List.getD_eq_getElem?_getD, List.getElem?_drop, ← List.getD_eq_getElem?_getD]
  unfold digB
  simp only [Bool.and_true, Bool.and_eq_true, beq_iff_eq, hc 0 (by omega), hc 1 (by omega), hc 2 (by omega), hc 3 (by omega), hc 4 (by omega), hc 5 (by omega), hc 6 (by omega), hc 7 (by omega), hc 8 (by omega), hc 9 (by omega)]
  generalize s.drop (s.length - 11 + 1) = l at *
  have e : ∀ (k : Nat) (b : UInt8), dI k ((p : Nat) : Int) = ((b.toNat : Nat) : Int) ↔ b = dig (prN p / 10 ^ k % 10) := by
    intro k b
    unfold dI
    rw [Int.toNat_natCast, Int.ofNat_inj, ← dig_cell (show prN p / 10 ^ k % 10 < 10 by omega), UInt8.toNat_inj, eq_comm]
  simp only [e]
  constructor
  · rintro ⟨a0, a1, a2, a3, a4, a5, a6, a7, a8, a9⟩
    rw [ten_of hl, a0, a1, a2, a3, a4, a5, a6, a7, a8, a9]; rfl
  · rintro rfl
    exact ⟨rfl, rfl, rfl, rfl, rfl, rfl, rfl, rfl, rfl, rfl⟩
theorem psG_iff {s : List UInt8} : psG s = true ↔ (12 ≤ s.length ∧ s.length ≤ 21 ∧ (s.getD (s.length - 11) 0).toNat = 46 ∧ ¬((s.getD 0 0).toNat = 48 ∧ 12 < s.length) ∧ pfb s = none ∧ secS s ≤ 4294967295 ∧ partN (numS s) ≤ 4294967295) ∧ digB ((partN (numS s) : Nat) : Int) (ceI s) = true := by
  unfold psG
  rw [Bool.and_eq_true, decide_eq_true_eq]
theorem ps_sound {s : List UInt8} {t : Nat} (h : psO s = some t) : t < 18446744073709551616 ∧ printL t = s := by
  unfold psO at h
  cases hG : psG s
  · rw [hG] at h; cases h
  rw [hG, cond_true] at h
  obtain rfl : secS s * 4294967296 + partN (numS s) = t := Option.some.inj h
  obtain ⟨⟨c1, c2, c3, c4, c5, c6, c7⟩, c8⟩ := psG_iff.1 hG
  refine ⟨by omega, ?_⟩
  have hnb : ∀ j, j < s.length → badAt s (s.length - 11) j = false := fun j hj => fb_none s.length 0 c5 j (by omega) (by omega)
  have ht : ∀ b ∈ s.take (s.length - 11), isDg b := by
    intro b hb
    obtain ⟨i, hi, rfl⟩ := List.getElem_of_mem hb
    rw [List.length_take] at hi
    have := notBad (hnb i (by omega)) (by omega)
    rw [List.getElem_take]
    rw [List.getD_eq_getElem?_getD, List.getElem?_eq_getElem (show i < s.length by omega)] at this
    exact this
  have hlt : (s.take (s.length - 11)).length = s.length - 11 := by rw [List.length_take]; omega
  have hne : s.take (s.length - 11) ≠ [] := by
    intro e
    rw [e] at hlt
    simp at hlt; omega
  have hD : decL (secS s) = s.take (s.length - 11) := by
    rw [secS_val (by omega)]
    refine decL_val _ rfl ht hne ?_
    by_cases h12 : s.length = 12
    · left; omega
    · right
      have : (s.take (s.length - 11)).getD 0 0 = s.getD 0 0 := by
        rw [List.getD_eq_getElem?_getD, List.getElem?_take_of_lt (by omega), ← List.getD_eq_getElem?_getD]
      rw [this]
      exact fun h => c4 ⟨h, by omega⟩
  have hT := (digB_iff c1 c2).1 c8
  have q1 : (secS s * 4294967296 + partN (numS s)) / 4294967296 = secS s := by omega
  have q2 : (secS s * 4294967296 + partN (numS s)) % 4294967296 = partN (numS s) := by omega
  unfold printL
  rw [q1, q2, hD, ← hT]
  have hdot : s.getD (s.length - 11) 0 = 46 := UInt8.toNat_inj.1 c3
  have := take_step (s := s) (i := s.length - 11) (by omega)
  rw [hdot] at this
  rw [← this, List.take_append_drop]

/-! ### A time's text -/
theorem print_len (t : Nat) : (printL t).length = (decL (t / 4294967296)).length + 11 := by
  unfold printL
  rw [List.length_append, List.length_append, ten_len]; rfl
theorem part_of {p N r : Nat} (h1 : 4294967296 * N + r = p * 10000000000) (h2 : r < 4294967296) : partN N = p := by
  have h3 := Nat.div_add_mod (N * 4294967296) 10000000000
  have h4 : N * 4294967296 % 10000000000 < 10000000000 := Nat.mod_lt _ (by decide)
  unfold partN
  revert h3 h4
  generalize N * 4294967296 / 10000000000 = q
  generalize N * 4294967296 % 10000000000 = u
  intro h3 h4
  rw [Nat.mul_comm N] at h3
  revert h1 h3
  generalize 4294967296 * N = X
  rw [Nat.mul_comm p]
  intro h1 h3
  have key : u = 0 ∧ q = p ∨ 0 < u ∧ q + 1 = p := by omega
  rcases key with ⟨c, e⟩ | ⟨c, e⟩
  · rw [c, if_neg (Nat.lt_irrefl 0), e]
  · rw [if_pos c, e]
theorem part_back {p : Nat} (h : p < 4294967296) : partN (prN p) = p :=
  part_of (Nat.div_add_mod (p * 10000000000) 4294967296) (Nat.mod_lt _ (by decide))
theorem dot_get (t : Nat) : (printL t).getD (decL (t / 4294967296)).length 0 = 46 := by
  unfold printL
  rw [List.append_assoc, List.getD_eq_getElem?_getD, List.getElem?_append_right (Nat.le_refl _), Nat.sub_self]; rfl
theorem front_get (t : Nat) {j : Nat} (h : j < (decL (t / 4294967296)).length) : isDg ((printL t).getD j 0) := by
  unfold printL
  rw [List.append_assoc, List.getD_eq_getElem?_getD, List.getElem?_append_left h, ← List.getD_eq_getElem?_getD]
  exact decL_dg _ _ (getD_mem h)
theorem back_get (t : Nat) {j : Nat} (h : (decL (t / 4294967296)).length < j) (h2 : j < (printL t).length) : isDg ((printL t).getD j 0) := by
  have h3 := print_len t
  unfold printL
  rw [List.getD_eq_getElem?_getD, List.getElem?_append_right (by simp; omega), ← List.getD_eq_getElem?_getD]
  refine ten_dg _ _ (getD_mem ?_)
  rw [ten_len, List.length_append]
  simp; omega
theorem take_print (t : Nat) : (printL t).take (decL (t / 4294967296)).length = decL (t / 4294967296) := by
  unfold printL
  rw [List.append_assoc, List.take_left' rfl]
theorem drop_print (t : Nat) : (printL t).drop ((decL (t / 4294967296)).length + 1) = tenL (prN (t % 4294967296)) := by
  unfold printL
  rw [List.drop_left' (by simp)]
theorem decL_ten {t : Nat} (h : t < 18446744073709551616) : (decL (t / 4294967296)).length ≤ 10 := decL_len 9 _ (Nat.lt_of_lt_of_le (show t / 4294967296 < 4294967296 by omega) (by decide))
theorem ps_complete {t : Nat} (h : t < 18446744073709551616) : psO (printL t) = some t := by
  have hl := print_len t
  have h1 := decL_pos (t / 4294967296)
  have h10 := decL_ten h
  have ht : t % 4294967296 < 4294967296 := by omega
  have eA : (printL t).length - 11 = (decL (t / 4294967296)).length := by omega
  have hs : secS (printL t) = t / 4294967296 := by rw [secS_val (by omega), eA, take_print, val_decL]
  have hn : numS (printL t) = prN (t % 4294967296) := by rw [numS_val, eA, drop_print, val_ten (prN_lt ht)]
  have hp : partN (numS (printL t)) = t % 4294967296 := by rw [hn, part_back ht]
  have hG : psG (printL t) = true := by
    refine psG_iff.2 ⟨⟨by omega, by omega, ?_, ?_, ?_, by omega, by omega⟩, ?_⟩
    · rw [eA, dot_get]; rfl
    · rintro ⟨z1, z2⟩
      have h10' := decL_one (n := t / 4294967296) (by omega)
      have hz := decL_lead (t / 4294967296) (by omega)
      have e : (printL t).getD 0 0 = (decL (t / 4294967296)).getD 0 0 := by
        unfold printL
        rw [List.append_assoc, List.getD_eq_getElem?_getD, List.getElem?_append_left (by omega), ← List.getD_eq_getElem?_getD]
      rw [e] at z1
      exact hz z1
    · unfold pfb
      refine none_fb _ _ fun j _ hj => ?_
      rw [eA]
      have key : isDg ((printL t).getD j 0) → badAt (printL t) (decL (t / 4294967296)).length j = false := by
        intro hd
        unfold isDg at hd
        unfold badAt noDig chr
        rw [decide_eq_false (by omega), cond_false, decide_eq_false (by omega), Bool.and_false]
      rcases Nat.lt_trichotomy j (decL (t / 4294967296)).length with hlt | heq | hgt
      · exact key (front_get t hlt)
      · unfold badAt
        rw [heq, Nat.beq_refl]; rfl
      · exact key (back_get t hgt (by omega))
    · rw [hp, digB_iff (by omega) (by omega), eA, drop_print]
  unfold psO
  rw [hG, cond_true, hs, hp]
  congr 1
  omega
theorem rf_sound {s : List UInt8} {t : Nat} (h : rfO s = some t) : t < 18446744073709551616 ∧ printL t = s := by
  unfold rfO at h
  cases hG : rfG s
  · rw [hG] at h; cases h
  rw [hG, cond_true] at h
  simp only [rfG, decide_eq_true_eq] at hG
  obtain rfl := Option.some.inj h
  exact ⟨bs_lt 32 _ _ (by omega), hG.2.2.2⟩
theorem sc_find {s : List UInt8} {A : Nat} (hA : A ≤ 10) (hl : A < s.length) (hd : ∀ j, j < A → isDg (s.getD j 0)) (hn : ¬ isDg (s.getD A 0)) : ∀ k i, i + k = 11 → i ≤ A → (sc s k i (val (s.take i))).1 = val (s.take A)
  | 0, i, h, hi => by omega
  | k + 1, i, h, hi => by
    unfold sc
    by_cases e : i = A
    · subst e
      have : isD s i = false := by
        simp only [isD, decide_eq_false_iff_not]
        rintro ⟨_, _, h1, h2⟩
        exact hn ⟨h1, h2⟩
      rw [this]; rfl
    · have hi' : i < A := by omega
      have := hd i hi'
      have hD : isD s i = true := by
        simp only [isD, decide_eq_true_eq]
        exact ⟨by omega, by omega, this.1, this.2⟩
      rw [hD, cond_true]
      have ih := sc_find hA hl hd hn k (i + 1) (by omega) (by omega)
      rw [take_step (by omega), val_snoc] at ih
      exact ih
theorem rf_complete {t : Nat} (h : t < 18446744073709551616) : rfO (printL t) = some t := by
  have hl := print_len t
  have h1 := decL_pos (t / 4294967296)
  have h10 := decL_ten h
  have hs : scS (printL t) = t / 4294967296 := by
    have := sc_find (s := printL t) (A := (decL (t / 4294967296)).length) h10 (by omega) (fun j hj => front_get t hj) (by rw [dot_get]; unfold isDg; decide) 11 0 (by omega) (by omega)
    rw [take_print, val_decL] at this
    exact this
  have hb : bsN (printL t) 32 (t / 4294967296 * 4294967296) = t := by
    have := bs_find (t := t) 32 0 (by omega) (by
      rw [Nat.div_eq_of_lt (show t % 4294967296 < 2 ^ 32 by omega), Nat.zero_mul])
    simpa using this
  have hlen : (printL (t / 4294967296 * 4294967296)).length = (printL t).length := by
    rw [print_len, print_len, Nat.mul_div_cancel _ (by decide)]
  have hG : rfG (printL t) = true := by
    unfold rfG
    rw [hs, hb]
    exact decide_eq_true ⟨by omega, by omega, hlen, rfl⟩
  unfold rfO
  rw [hG, cond_true, hs, hb]
theorem ps_rf (s : List UInt8) : psO s = rfO s := by
  apply Option.ext
  intro t
  constructor
  · intro h
    obtain ⟨h1, rfl⟩ := ps_sound h
    exact rf_complete h1
  · intro h
    obtain ⟨h1, rfl⟩ := rf_sound h
    exact ps_complete h1
theorem print_inj {a b : Nat} (ha : a < 18446744073709551616) (hb : b < 18446744073709551616) (h : printL a = printL b) : a = b := by
  have h1 := ps_complete ha
  rw [h, ps_complete hb] at h1
  exact (Option.some.inj h1).symm
end
end Go.Proofs.YthnleapnhkkeoaaDoor
