/- Values' bytes tell values apart, in plain words. It bears no condition. -/
import Derived.Test.YtolpgbgmldpneaaDsA
namespace Go.Proofs.Ytolpgbgmldpneaa
open Go Go.Im
set_option linter.unusedVariables false
set_option linter.unusedSimpArgs false
set_option maxRecDepth 20000
noncomputable section

theorem u8of_inj {a b : Int} (h : u8of a = u8of b) (ha : 0 ≤ a ∧ a < 256) (hb : 0 ≤ b ∧ b < 256) : a = b := by
  have h1 := u8of_toNat a
  have h2 := u8of_toNat b
  rw [h] at h1
  omega
theorem be_inj {n m : Nat} : ∀ k, be k (n : Int) = be k (m : Int) → n % 256 ^ k = m % 256 ^ k
  | 0, _ => by simp [Nat.mod_one]
  | k + 1, h => by
    rw [be_succ, be_succ] at h
    simp only [List.cons.injEq] at h
    have ih := be_inj k h.2
    have h1 : ((byteAt (n : Int) k).toNat : Int) = (byteAt (m : Int) k).toNat := by rw [h.1]
    unfold byteAt at h1
    rw [u8of_toNat, u8of_toNat, ← Int.natCast_ediv, ← Int.natCast_ediv] at h1
    have h2 : n / 256 ^ k % 256 = m / 256 ^ k % 256 := by omega
    rw [Nat.mod_pow_succ, Nat.mod_pow_succ, ih, h2]
theorem lenB_inj {n m : Nat} (hn : n < 4294967296) (hm : m < 4294967296) {s t : List UInt8} (h : lenB n ++ s = lenB m ++ t) : n = m ∧ s = t := by
  have kn := kOf_le n
  have km := kOf_le m
  unfold lenB at h
  by_cases h1 : n < 128
  · by_cases h2 : m < 128
    · rw [if_pos h1, if_pos h2] at h
      simp only [List.cons_append, List.nil_append, List.cons.injEq] at h
      have := u8of_inj h.1 (by omega) (by omega)
      exact ⟨by omega, h.2⟩
    · rw [if_pos h1, if_neg h2] at h
      simp only [List.cons_append, List.nil_append, List.cons.injEq] at h
      have := u8of_inj h.1 (by omega) (by omega)
      omega
  · by_cases h2 : m < 128
    · rw [if_neg h1, if_pos h2] at h
      simp only [List.cons_append, List.nil_append, List.cons.injEq] at h
      have := u8of_inj h.1 (by omega) (by omega)
      omega
    · rw [if_neg h1, if_neg h2] at h
      simp only [List.cons_append, List.cons.injEq] at h
      have hk := u8of_inj h.1 (by omega) (by omega)
      have hk : kOf n = kOf m := by omega
      have h3 := List.append_inj h.2 (by rw [be_len, be_len, hk])
      have h4 := be_inj (kOf n) (h3.1.trans (by rw [hk]))
      have e1 := kOf_end hn
      have e2 := kOf_end hm
      have p : 0 < 256 ^ kOf n := Nat.pow_pos (by omega)
      have q1 : n < 256 ^ kOf n := (Nat.div_eq_zero_iff.1 e1).resolve_left (by omega)
      have q2 : m < 256 ^ kOf n := by rw [hk]; rw [hk] at p; exact (Nat.div_eq_zero_iff.1 e2).resolve_left (by omega)
      rw [Nat.mod_eq_of_lt q1, Nat.mod_eq_of_lt q2] at h4
      exact ⟨h4, h3.2⟩
theorem wel_tag {x : Nd} (h : x.wel = true) : 0 ≤ x.tag ∧ x.tag < 256 := by
  rw [wel_mk] at h
  cases hm : gMany x.tag
  · rw [hm] at h
    simp only [Bool.not_false, cond_true, Bool.and_eq_true] at h
    have h2 := h.2
    by_cases t1 : x.tag = 1; · omega
    by_cases t2 : x.tag = 2; · omega
    by_cases t3 : x.tag = 3; · omega
    by_cases t4 : x.tag = 4; · omega
    by_cases t5 : x.tag = 5; · omega
    by_cases t12 : x.tag = 12; · omega
    unfold fitsB at h2
    rw [show (x.tag == 1) = false from beq_eq_false_iff_ne.2 t1, show (x.tag == 2) = false from beq_eq_false_iff_ne.2 t2, show (x.tag == 3) = false from beq_eq_false_iff_ne.2 t3, show (x.tag == 4) = false from beq_eq_false_iff_ne.2 t4, show (x.tag == 5) = false from beq_eq_false_iff_ne.2 t5, show (x.tag == 12) = false from beq_eq_false_iff_ne.2 t12] at h2
    cases h2
  · unfold gMany at hm
    cases h48 : x.tag == 48
    · rw [h48] at hm
      have := eq_of_beq hm
      omega
    · have := eq_of_beq h48
      omega
theorem wr_pos (x : Nd) : x.wr ≠ [] := by rw [wr_mk]; simp
mutual
theorem wr_inj : ∀ (x y : Nd) (s t : List UInt8), x.wel = true → y.wel = true → x.sz ≤ 100000000 → y.sz ≤ 100000000 → x.wr ++ s = y.wr ++ t → x = y ∧ s = t
  | .mk t1 b1 ks1, .mk t2 b2 ks2, s, t, hx, hy, sx, sy, h => by
    have ih := wrs_inj ks1 ks2
    have tx := wel_tag hx
    have ty := wel_tag hy
    have lx := wrs_len ks1
    have ly := wrs_len ks2
    rw [sz_mk] at sx sy
    rw [wel_mk] at hx hy
    simp only [Nd.tag, Nd.bytes, Nd.kids] at tx ty hx hy sx sy
    rw [wr_mk, wr_mk] at h
    simp only [Nd.tag, Nd.bytes, Nd.kids, List.cons_append, List.cons.injEq, List.append_assoc] at h
    obtain ⟨h1, h2⟩ := h
    have ht := u8of_inj h1 tx ty
    subst ht
    rw [← List.append_assoc b1, ← List.append_assoc b2] at h2
    obtain ⟨h3, h4⟩ := lenB_inj (by rw [List.length_append]; omega) (by rw [List.length_append]; omega) h2
    obtain ⟨h5, h6⟩ := List.append_inj h4 h3
    subst h6
    refine ⟨?_, rfl⟩
    cases hm : gMany t1
    · rw [hm] at hx hy
      simp only [Bool.not_false, cond_true, Bool.and_eq_true, List.isEmpty_iff] at hx hy
      obtain ⟨rfl, _⟩ := hx
      obtain ⟨rfl, _⟩ := hy
      simp only [wrs, List.append_nil] at h5
      rw [h5]
    · rw [hm] at hx hy
      simp only [Bool.not_true, cond_false, Bool.and_eq_true, List.isEmpty_iff] at hx hy
      obtain ⟨w1, rfl, _⟩ := hx
      obtain ⟨w2, rfl, _⟩ := hy
      simp only [List.nil_append] at h5
      rw [ih w1 w2 (by omega) (by omega) h5]
theorem wrs_inj : ∀ (a b : List Nd), wels a = true → wels b = true → szs a ≤ 100000000 → szs b ≤ 100000000 → wrs a = wrs b → a = b
  | [], [], _, _, _, _, _ => rfl
  | [], y :: b, _, _, _, _, h => by
    exfalso
    unfold wrs at h
    exact wr_pos y (List.append_eq_nil_iff.1 h.symm).1
  | x :: a, [], _, _, _, _, h => by
    exfalso
    unfold wrs at h
    exact wr_pos x (List.append_eq_nil_iff.1 h).1
  | x :: a, y :: b, hx, hy, sx, sy, h => by
    have i1 := wr_inj x y (wrs a) (wrs b)
    have i2 := wrs_inj a b
    unfold wels at hx hy
    unfold szs at sx sy
    unfold wrs at h
    rw [Bool.and_eq_true] at hx hy
    obtain ⟨e1, e2⟩ := i1 hx.1 hy.1 (by omega) (by omega) h
    rw [e1, i2 hx.2 hy.2 (by omega) (by omega) e2]
end
mutual
theorem same_iff : ∀ x y : Nd, x.same y = true → x = y
  | .mk t b ks, .mk t' b' ks', h => by
    have ih := sames_iff ks ks'
    rw [same_mk] at h
    simp only [Nd.tag, Nd.bytes, Nd.kids, Bool.and_eq_true, beq_iff_eq] at h
    rw [h.1, h.2.1, ih h.2.2]
theorem sames_iff : ∀ a b : List Nd, sames a b = true → a = b
  | [], [], _ => rfl
  | [], _ :: _, h => by cases h
  | _ :: _, [], h => by cases h
  | x :: a, y :: b, h => by
    have i1 := same_iff x y
    have i2 := sames_iff a b
    unfold sames at h
    rw [Bool.and_eq_true] at h
    rw [i1 h.1, i2 h.2]
end
/-- A right value's parts are right. -/
theorem right_wel {x : Nd} (h : (x.rg 16 4096).1 = true) : x.wel = true ∧ (x.num : Int) ≤ 4096 ∧ (x.dp : Int) ≤ 16 := by
  have := (rg_eq x 16 4096 (by omega) (by omega)).1
  rw [this, Bool.and_eq_true, decide_eq_true_eq] at h
  exact h
theorem wr_same {x y : Nd} (hx : (x.rg 16 4096).1 = true) (hy : (y.rg 16 4096).1 = true) (sx : x.sz ≤ 100000000) (sy : y.sz ≤ 100000000) : (x.wr == y.wr) = x.same y := by
  cases h : x.same y
  · rw [beq_eq_false_iff_ne]
    intro e
    have := (wr_inj x y [] [] (right_wel hx).1 (right_wel hy).1 sx sy (by rw [e])).1
    rw [this, same_refl] at h
    cases h
  · rw [same_iff x y h]
    exact beq_self_eq_true _
end
end Go.Proofs.Ytolpgbgmldpneaa
