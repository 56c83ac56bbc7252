/- Values are read, in plain words: a right value's bytes are read as it; cut, they end too soon. It bears no condition. -/
import Derived.Test.YtolpgbgmldpneaaDtF
namespace Go.Proofs.Ytolpgbgmldpneaa
open Go Go.Im
set_option linter.unusedVariables false
set_option linter.unusedSimpArgs false
set_option maxRecDepth 20000
noncomputable section

theorem byteAt_nat (N j : Nat) : (byteAt (N : Int) j).toNat = N / 256 ^ j % 256 := by
  have h := u8of_toNat ((N / 256 ^ j : Nat) : Int)
  rw [byte_at] at h
  omega
theorem step_div (N k : Nat) : N / 256 ^ (k + 1) * 256 + N / 256 ^ k % 256 = N / 256 ^ k := by
  rw [Nat.pow_succ, ← Nat.div_div_eq_div_mul]
  omega
theorem szM_full {b : List UInt8} {e bg N : Nat} (h128 : 128 ≤ N) : ∀ (k a : Nat), cutB b a (k + 1) = be (k + 1) (N : Int) → a + (k + 1) ≤ b.length → 256 ^ k ≤ N → szM b e bg (k + 1) (N / 256 ^ (k + 1)) a = szD b.length e bg N (a + (k + 1))
  | 0, a, h1, h2, h3 => by
    have ha : a < b.length := by omega
    rw [cut_succ ha, be_succ, List.cons.injEq] at h1
    have hm : N / 256 ^ (0 + 1) * 256 + b[a].toNat = N := by
      rw [h1.1, byteAt_nat, step_div, Nat.pow_zero, Nat.div_one]
    unfold szM
    rw [dif_pos ha, hm, if_neg (by omega), if_neg (by omega : ¬ 0 < 0), if_neg (by omega)]
  | k + 1, a, h1, h2, h3 => by
    have ha : a < b.length := by omega
    rw [cut_succ ha, be_succ, List.cons.injEq] at h1
    have hp : 0 < 256 ^ (k + 1) := Nat.pow_pos (by omega)
    have hle : 256 ^ k ≤ 256 ^ (k + 1) := Nat.pow_le_pow_right (by omega) (by omega)
    have hm : N / 256 ^ (k + 1 + 1) * 256 + b[a].toNat = N / 256 ^ (k + 1) := by
      rw [h1.1, byteAt_nat, step_div]
    have h4 : 1 ≤ N / 256 ^ (k + 1) := (Nat.le_div_iff_mul_le hp).2 (by omega)
    have ih := szM_full (b := b) (e := e) (bg := bg) h128 k (a + 1) h1.2 (by omega) (by omega)
    conv => lhs; unfold szM
    rw [dif_pos ha, hm, if_neg (by omega), if_pos (by omega : 0 < k + 1), ih]
    congr 1
    omega
theorem szM_short {b : List UInt8} {e bg N : Nat} : ∀ (k j a : Nat), b.drop a = (be (k + 1) (N : Int)).take j → j < k + 1 → a ≤ b.length → 256 ^ k ≤ N → szM b e bg (k + 1) (N / 256 ^ (k + 1)) a = ⟨false, 0, b.length, b.length, 72⟩
  | k, 0, a, h1, h2, h3, h4 => by
    have : b.length ≤ a := by
      have := congrArg List.length h1
      rw [List.length_drop, List.take_zero, List.length_nil] at this
      omega
    obtain rfl : a = b.length := by omega
    unfold szM
    rw [dif_neg (by omega)]
  | 0, j + 1, a, h1, h2, h3, h4 => by omega
  | k + 1, j + 1, a, h1, h2, h3, h4 => by
    have ha : a < b.length := by
      have := congrArg List.length h1
      rw [List.length_drop, List.length_take, be_len] at this
      omega
    rw [← List.getElem_cons_drop ha, be_succ, List.take_succ_cons, List.cons.injEq] at h1
    have hp : 0 < 256 ^ (k + 1) := Nat.pow_pos (by omega)
    have hle : 256 ^ k ≤ 256 ^ (k + 1) := Nat.pow_le_pow_right (by omega) (by omega)
    have hm : N / 256 ^ (k + 1 + 1) * 256 + b[a].toNat = N / 256 ^ (k + 1) := by
      rw [h1.1, byteAt_nat, step_div]
    have h5 : 1 ≤ N / 256 ^ (k + 1) := (Nat.le_div_iff_mul_le hp).2 (by omega)
    have ih := szM_short (b := b) (e := e) (bg := bg) k j (a + 1) h1.2 (by omega) (by omega) (by omega)
    conv => lhs; unfold szM
    rw [dif_pos ha, hm, if_neg (by omega), if_pos (by omega : 0 < k + 1), ih]
theorem kOf_pow {N : Nat} (h : 1 ≤ N) : ∃ k, kOf N = k + 1 ∧ k < 4 ∧ 256 ^ k ≤ N := by
  have h1 := kOf_le N
  refine ⟨kOf N - 1, by omega, by omega, ?_⟩
  have h2 := kOf_lt (j := kOf N - 1) (n := N) (by omega) h
  have := (Nat.le_div_iff_mul_le (k := 256 ^ (kOf N - 1)) (Nat.pow_pos (by omega))).1 h2
  omega
theorem u8of_val {n : Nat} (h : n < 256) : (u8of (n : Int)).toNat = n := by
  have := u8of_toNat (n : Int)
  omega
theorem szF_full {b : List UInt8} {e a N : Nat} (hN : N < 4294967296) (h1 : cutB b a (lenB N).length = lenB N) (h2 : a + (lenB N).length ≤ b.length) : szF b e a = szD b.length e a N (a + (lenB N).length) := by
  unfold lenB at h1 h2 ⊢
  unfold szF
  by_cases hs : N < 128
  · rw [if_pos hs] at h1 h2 ⊢
    simp only [List.length_cons, List.length_nil] at h1 h2 ⊢
    have ha : a < b.length := by omega
    rw [cut_succ ha, cut_zero, List.cons.injEq] at h1
    have hb : b[a].toNat = N := by rw [h1.1]; exact u8of_val (by omega)
    rw [dif_pos ha, hb, if_pos hs]
  · rw [if_neg hs] at h1 h2 ⊢
    simp only [List.length_cons, be_len] at h1 h2 ⊢
    have ha : a < b.length := by omega
    rw [cut_succ ha, List.cons.injEq] at h1
    obtain ⟨k, hk, hk4, hkN⟩ := kOf_pow (N := N) (by omega)
    have hb : b[a].toNat = 128 + kOf N := by rw [h1.1]; exact u8of_val (by omega)
    have he := kOf_end hN
    rw [dif_pos ha, hb, if_neg (by omega), if_neg (by omega), show (128 + kOf N) % 128 = kOf N by omega, hk]
    have hh := h1.2
    rw [hk] at hh h2 he
    have := szM_full (b := b) (e := e) (bg := a) (N := N) (by omega) k (a + 1) hh (by omega) hkN
    rw [he] at this
    rw [this]
    congr 1
    omega
theorem szF_short {b : List UInt8} {e a N j : Nat} (hN : N < 4294967296) (h1 : b.drop a = (lenB N).take j) (h2 : j < (lenB N).length) (h3 : a ≤ b.length) : szF b e a = ⟨false, 0, b.length, b.length, 72⟩ := by
  have hl := congrArg List.length h1
  rw [List.length_drop, List.length_take] at hl
  unfold szF
  cases j with
  | zero =>
    obtain rfl : a = b.length := by omega
    rw [dif_neg (by omega)]
  | succ j =>
    have ha : a < b.length := by omega
    rw [← List.getElem_cons_drop ha] at h1
    unfold lenB at h1 h2
    by_cases hs : N < 128
    · rw [if_pos hs] at h2
      simp only [List.length_cons, List.length_nil] at h2
      omega
    · rw [if_neg hs] at h1 h2
      simp only [List.length_cons, be_len] at h2
      rw [List.take_succ_cons, List.cons.injEq] at h1
      obtain ⟨k, hk, hk4, hkN⟩ := kOf_pow (N := N) (by omega)
      have hb : b[a].toNat = 128 + kOf N := by rw [h1.1]; exact u8of_val (by omega)
      have he := kOf_end hN
      rw [dif_pos ha, hb, if_neg (by omega), if_neg (by omega), show (128 + kOf N) % 128 = kOf N by omega, hk]
      have hh := h1.2
      rw [hk] at hh h2 he
      have := szM_short (b := b) (e := e) (bg := a) (N := N) k j (a + 1) hh (by omega) (by omega) hkN
      rw [he] at this
      rw [this]
theorem szD_fit {L e bg n a : Nat} (h1 : n + a ≤ e) (h2 : n + a ≤ L) : szD L e bg n a = ⟨true, n, a, 0, 0⟩ := by
  unfold szD
  rw [if_neg (by omega), if_neg (by omega), if_neg (by omega)]

/-! ### A value's bytes are read as it -/
theorem wel_tagB {x : Nd} (h : x.wel = true) : tagB x.tag.toNat = true := by
  have ht := wel_tag h
  rw [wel_mk] at h
  unfold tagB
  refine decide_eq_true ?_
  cases hm : gMany x.tag
  · rw [hm] at h
    simp only [Bool.not_false, cond_true, Bool.and_eq_true] at h
    have h2 := h.2
    by_cases t1 : x.tag = 1; · omega
    by_cases t2 : x.tag = 2; · omega
    by_cases t3 : x.tag = 3; · omega
    by_cases t4 : x.tag = 4; · omega
    by_cases t5 : x.tag = 5; · omega
    by_cases t12 : x.tag = 12; · omega
    unfold fitsB at h2
    rw [show (x.tag == 1) = false from beq_eq_false_iff_ne.2 t1, show (x.tag == 2) = false from beq_eq_false_iff_ne.2 t2, show (x.tag == 3) = false from beq_eq_false_iff_ne.2 t3, show (x.tag == 4) = false from beq_eq_false_iff_ne.2 t4, show (x.tag == 5) = false from beq_eq_false_iff_ne.2 t5, show (x.tag == 12) = false from beq_eq_false_iff_ne.2 t12] at h2
    cases h2
  · rcases many_tag hm with h8 | h8 <;> omega
theorem wrs_cons (k : Nd) (ks : List Nd) : wrs (k :: ks) = k.wr ++ wrs ks := by conv => lhs; unfold wrs
/-- A value's bytes, taken apart. -/
theorem cut_wr {b : List UInt8} {a : Nat} {x : Nd} (h : cutB b a x.wr.length = x.wr) (hl : a + x.wr.length ≤ b.length) :
    ∃ (ha : a < b.length) (N p : Nat), N = (x.bytes ++ wrs x.kids).length ∧ p = (lenB N).length ∧ b[a] = u8of x.tag ∧ cutB b (a + 1) p = lenB N ∧ cutB b (a + 1 + p) N = x.bytes ++ wrs x.kids ∧ x.wr.length = 1 + p + N := by
  have hw : x.wr.length = 1 + (lenB (x.bytes ++ wrs x.kids).length).length + (x.bytes ++ wrs x.kids).length := by
    rw [wr_mk, List.length_cons, List.length_append]
    omega
  have ha : a < b.length := by omega
  refine ⟨ha, _, _, rfl, rfl, ?_⟩
  rw [hw, Nat.add_assoc, Nat.add_comm 1, cut_succ ha, cut_app, wr_mk, List.cons.injEq] at h
  obtain ⟨h1, h2⟩ := h
  obtain ⟨h3, h4⟩ := List.append_inj h2 (by rw [cut_len (by omega)])
  exact ⟨h1, h3, h4, hw⟩
mutual
theorem vF_wr : ∀ (x : Nd) (b : List UInt8) (l e a k : Nat), x.wel = true → x.dp ≤ l → k + x.num ≤ 4096 → cutB b a x.wr.length = x.wr → a + x.wr.length ≤ e → e ≤ b.length → b.length < 4294967296 → vF b l e a k = ⟨true, x, a + x.wr.length, k + x.num, 0, 0⟩
  | .mk t bs ks, b, l, e, a, k, hw, hd, hk, hc, he, hb, hL => by
    have hdp := dp_pos (.mk t bs ks)
    obtain ⟨l, rfl⟩ : ∃ l', l = l' + 1 := ⟨l - 1, by omega⟩
    have hnp := num_pos (.mk t bs ks)
    obtain ⟨ha, N, p, hN, hp, h1, h2, h3, h4⟩ := cut_wr hc (by omega)
    have ih := fun stop f a' k' => vL_wr ks b l stop f [] a' k'
    have ht := wel_tag hw
    have hg := wel_tagB hw
    rw [wel_mk] at hw
    rw [dp_mk] at hd
    rw [num_mk] at hk ⊢
    simp only [Nd.tag, Nd.bytes, Nd.kids] at hN h1 h3 ht hg hw hd hk ⊢
    have hbt : b[a].toNat = t.toNat := by
      rw [h1]
      have := u8of_toNat t
      omega
    have hbi : (b[a].toNat : Int) = t := by omega
    have hs : szF b e (a + 1) = ⟨true, N, a + 1 + p, 0, 0⟩ := by
      rw [szF_full (N := N) (by omega) (by rw [← hp]; exact h2) (by rw [← hp]; omega), ← hp, szD_fit (by omega) (by omega)]
    unfold vF
    rw [dif_pos ha, hbi, hbt, if_pos hg, if_neg (by omega), hs, h4]
    unfold vBody
    rw [if_pos rfl]
    cases hm : gMany t
    · rw [hm] at hw
      simp only [Bool.not_false, cond_true, Bool.and_eq_true, List.isEmpty_iff] at hw
      obtain ⟨rfl, hf⟩ := hw
      simp only [wrs, List.append_nil] at hN h3
      rw [if_neg (by simp)]
      unfold vLeaf
      dsimp only
      rw [h3, if_pos hf]
      simp only [nums, Vp.mk.injEq, true_and, and_true]
      omega
    · rw [hm] at hw
      simp only [Bool.not_true, cond_false, Bool.and_eq_true, List.isEmpty_iff] at hw
      obtain ⟨w1, rfl, w2⟩ := hw
      simp only [List.nil_append] at hN h3
      rw [if_pos rfl]
      unfold vMany
      dsimp only
      rw [ih (a + 1 + p + N) N (a + 1 + p) (k + 1) w1 (by omega) (by omega) (by rw [← hN]; exact h3) (by omega) (by omega) (by omega) hL]
      unfold vEnd
      rw [if_pos rfl]
      dsimp only
      rw [List.nil_append]
      have : ¬ (t = 49 ∧ adjB leB ks = false) := by
        rintro ⟨rfl, h⟩
        rw [h] at w2
        cases w2
      rw [if_neg this]
      simp only [Vp.mk.injEq, true_and, and_true]
      omega
theorem vL_wr : ∀ (ks : List Nd) (b : List UInt8) (l stop f : Nat) (acc : List Nd) (a k : Nat), wels ks = true → dps ks ≤ l → k + nums ks ≤ 4096 → cutB b a (wrs ks).length = wrs ks → a + (wrs ks).length = stop → stop ≤ b.length → stop - a ≤ f → b.length < 4294967296 →
    vLoop (vF b l stop) stop f acc a k = ⟨true, acc ++ ks, stop, k + nums ks, 0, 0⟩
  | [], b, l, stop, f, acc, a, k, h1, h2, h3, h4, h5, h6, h7, h8 => by
    simp only [wrs, List.length_nil] at h5
    obtain rfl : a = stop := by omega
    have hn : nums [] = 0 := by unfold nums; rfl
    rw [hn, List.append_nil, Nat.add_zero]
    cases f with
    | zero => rfl
    | succ f => unfold vLoop; rw [if_neg (by omega)]
  | x :: ks, b, l, stop, f, acc, a, k, h1, h2, h3, h4, h5, h6, h7, h8 => by
    have i1 := vF_wr x b l stop a k
    have hwl : (wrs (x :: ks)).length = x.wr.length + (wrs ks).length := by rw [wrs_cons, List.length_append]
    have hpos : 0 < x.wr.length := List.length_pos_iff.2 (wr_pos x)
    rw [nums_cons] at h3 ⊢
    rw [hwl, cut_app] at h4
    unfold wels at h1
    unfold dps at h2
    have h4' : cutB b a x.wr.length ++ cutB b (a + x.wr.length) (wrs ks).length = x.wr ++ wrs ks := h4
    obtain ⟨c1, c2⟩ := List.append_inj h4' (by rw [cut_len (by omega)])
    rw [Bool.and_eq_true] at h1
    have i1 := i1 h1.1 (by omega) (by omega) c1 (by omega) h6 h8
    obtain ⟨f, rfl⟩ : ∃ f', f = f' + 1 := ⟨f - 1, by omega⟩
    have i2 := vL_wr ks b l stop f (acc ++ [x]) (a + x.wr.length) (k + x.num) h1.2 (by omega) (by omega) c2 (by omega) h6 (by omega) h8
    unfold vLoop
    rw [if_pos (by omega), i1, if_pos rfl]
    dsimp only
    rw [i2, List.append_assoc, Nat.add_assoc]
    rfl
end

/-! ### Reading -/
structure Rp where
  x : Nd
  fa : Nat
  fc : Int
def rdF (b : List UInt8) : Rp :=
  if b.length > 65535 then ⟨z0, 0, 2⟩ else
  if (vF b 16 b.length 0 0).ok = true then if (vF b 16 b.length 0 0).a < b.length then ⟨z0, (vF b 16 b.length 0 0).a, 73⟩ else ⟨(vF b 16 b.length 0 0).x, 0, 0⟩
  else ⟨z0, (vF b 16 b.length 0 0).fa, (vF b 16 b.length 0 0).fc⟩
/-- Right values, by their parts. -/
theorem right_num {x : Nd} (h : (x.rg 16 4096).1 = true) : x.wel = true ∧ x.num ≤ 4096 ∧ x.dp ≤ 16 := by
  obtain ⟨h1, h2, h3⟩ := right_wel h
  exact ⟨h1, by omega, by omega⟩
theorem right_of {x : Nd} (h1 : x.wel = true) (h2 : x.num ≤ 4096) (h3 : x.dp ≤ 16) : (x.rg 16 4096).1 = true := by
  rw [(rg_eq x 16 4096 (by omega) (by omega)).1, h1, decide_eq_true (by omega)]
  rfl
theorem cut_self (w s : List UInt8) : cutB (w ++ s) 0 w.length = w := by
  unfold cutB
  rw [List.drop_zero, List.take_left' rfl]
/-- What is written is read as it was. -/
theorem rd_wr {x : Nd} (h : (x.rg 16 4096).1 = true) (hl : x.wr.length ≤ 65535) : rdF x.wr = ⟨x, 0, 0⟩ := by
  obtain ⟨h1, h2, h3⟩ := right_num h
  have hv := vF_wr x x.wr 16 x.wr.length 0 0 h1 h3 (by omega) (by have := cut_self x.wr []; rw [List.append_nil] at this; exact this) (by omega) (Nat.le_refl _) (by omega)
  unfold rdF
  rw [if_neg (by omega), hv, if_pos rfl]
  dsimp only
  rw [if_neg (by omega)]
/-- With a byte more. -/
theorem rd_more {x : Nd} (h : (x.rg 16 4096).1 = true) (hl : x.wr.length < 65535) (m : UInt8) : (rdF (x.wr ++ [m])).fa = x.wr.length ∧ (rdF (x.wr ++ [m])).fc = 73 := by
  obtain ⟨h1, h2, h3⟩ := right_num h
  have hL : (x.wr ++ [m]).length = x.wr.length + 1 := by rw [List.length_append]; rfl
  have hv := vF_wr x (x.wr ++ [m]) 16 (x.wr ++ [m]).length 0 0 h1 h3 (by omega) (cut_self x.wr [m]) (by omega) (Nat.le_refl _) (by omega)
  unfold rdF
  rw [if_neg (by omega), hv, if_pos rfl]
  dsimp only
  rw [if_pos (by omega)]
  exact ⟨Nat.zero_add _, rfl⟩
/-- Cut anywhere. -/
theorem rd_cut {x : Nd} (h : (x.rg 16 4096).1 = true) (hl : x.wr.length ≤ 65535) {c : Nat} (hc : c < x.wr.length) : (rdF (x.wr.take c)).fa = c ∧ (rdF (x.wr.take c)).fc = 72 := by
  obtain ⟨h1, h2, h3⟩ := right_num h
  have hL : (x.wr.take c).length = c := by rw [List.length_take]; omega
  have hv : (vF (x.wr.take c) 16 (x.wr.take c).length 0 0).ok = false ∧ (vF (x.wr.take c) 16 (x.wr.take c).length 0 0).fa = c ∧ (vF (x.wr.take c) 16 (x.wr.take c).length 0 0).fc = 72 := by
    unfold vF
    cases c with
    | zero =>
      rw [dif_neg (by rw [hL]; omega)]
      exact ⟨rfl, hL, rfl⟩
    | succ c =>
      have ht := wel_tag h1
      have hg := wel_tagB h1
      have ha : 0 < (x.wr.take (c + 1)).length := by omega
      have hw := wr_mk x
      generalize hN : (x.bytes ++ wrs x.kids).length = N at hw
      generalize hB : x.bytes ++ wrs x.kids = B at hw hN
      have hwl : x.wr.length = 1 + (lenB N).length + N := by
        rw [hw, List.length_cons, List.length_append, hN]
        omega
      have hb0 : (x.wr.take (c + 1))[0].toNat = x.tag.toNat := by
        have : (x.wr.take (c + 1))[0] = u8of x.tag := by
          rw [List.getElem_take]
          simp only [hw, List.getElem_cons_zero]
        rw [this]
        have := u8of_toNat x.tag
        omega
      have hdrop : (x.wr.take (c + 1)).drop 1 = (lenB N ++ B).take c := by rw [hw, List.take_succ_cons]; rfl
      rw [dif_pos ha, hb0, if_pos hg, if_neg (by omega)]
      unfold vBody
      by_cases hs : c < (lenB N).length
      · have := szF_short (b := x.wr.take (c + 1)) (e := (x.wr.take (c + 1)).length) (a := 0 + 1) (N := N) (j := c) (by omega) (by rw [hdrop, List.take_append_of_le_length (by omega)]) hs (by omega)
        rw [this, if_neg (by simp)]
        exact ⟨rfl, hL, rfl⟩
      · have hcut : cutB (x.wr.take (c + 1)) (0 + 1) (lenB N).length = lenB N := by
          unfold cutB
          rw [hdrop, List.take_take, Nat.min_eq_left (by omega), List.take_left' rfl]
        have := szF_full (b := x.wr.take (c + 1)) (e := (x.wr.take (c + 1)).length) (a := 0 + 1) (N := N) (by omega) hcut (by omega)
        have hD' : ∀ bg, szD (x.wr.take (c + 1)).length (x.wr.take (c + 1)).length bg N (0 + 1 + (lenB N).length) = ⟨false, 0, 0 + 1 + (lenB N).length, (x.wr.take (c + 1)).length, 72⟩ := fun bg => by
          unfold szD
          rw [if_neg (by omega), if_pos (by omega)]
        rw [this, hD', if_neg (by simp)]
        exact ⟨rfl, hL, rfl⟩
  obtain ⟨v1, v2, v3⟩ := hv
  unfold rdF
  rw [if_neg (by omega), v1, if_neg (by simp)]
  exact ⟨v2, v3⟩
/-- What is read is right, and stood there. -/
theorem rd_ok {b : List UInt8} (h : (rdF b).fc = 0) : ((rdF b).x.rg 16 4096).1 = true ∧ (rdF b).x.wr = b ∧ (rdF b).x.sz ≤ 8 * b.length ∧ b.length ≤ 65535 := by
  unfold rdF at h ⊢
  by_cases h1 : b.length > 65535
  · rw [if_pos h1] at h; cases h
  rw [if_neg h1] at h ⊢
  by_cases h2 : (vF b 16 b.length 0 0).ok = true
  case neg =>
    rw [if_neg h2] at h
    exact absurd h (vF_no 16 b.length 0 0 (by simpa using h2)).2.2
  rw [if_pos h2] at h ⊢
  obtain ⟨x, p, g⟩ := vF_ok (b := b) (by omega) 16 b.length 0 0 (Nat.le_refl _) (by omega) h2
  rw [g.eq] at h ⊢
  dsimp only at h ⊢
  by_cases h3 : 0 + p < b.length
  · rw [if_pos h3] at h; cases h
  rw [if_neg h3]
  have g3 := g.fit
  have g4 := g.num
  have g5 := g.wr
  have g6 := g.sz
  obtain rfl : p = b.length := by omega
  have g7 : x.num ≤ 4096 := by omega
  refine ⟨right_of g.wel g7 g.dp, ?_, g6, by omega⟩
  dsimp only
  rw [← g5]
  unfold cutB
  rw [List.drop_zero, List.take_length]
theorem rd_no {b : List UInt8} (h : (rdF b).fc ≠ 0) : (rdF b).x = z0 ∧ (rdF b).fa ≤ b.length := by
  unfold rdF at h ⊢
  by_cases h1 : b.length > 65535
  · rw [if_pos h1]; exact ⟨rfl, Nat.zero_le _⟩
  rw [if_neg h1] at h ⊢
  by_cases h2 : (vF b 16 b.length 0 0).ok = true
  · rw [if_pos h2] at h ⊢
    by_cases h3 : (vF b 16 b.length 0 0).a < b.length
    · rw [if_pos h3]; exact ⟨rfl, Nat.le_of_lt h3⟩
    · rw [if_neg h3] at h; exact absurd rfl h
  · rw [if_neg h2]
    exact ⟨rfl, (vF_no 16 b.length 0 0 (by simpa using h2)).2.1⟩
end
end Go.Proofs.Ytolpgbgmldpneaa
