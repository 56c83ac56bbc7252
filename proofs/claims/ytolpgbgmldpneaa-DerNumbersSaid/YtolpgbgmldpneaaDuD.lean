/- Numbers with a sign as values, and back. It bears no condition. -/
import Derived.Test.YtolpgbgmldpneaaDuC
namespace Go.Proofs.Ytolpgbgmldpneaa
open Go Go.Im
set_option linter.unusedVariables false
set_option linter.unusedSimpArgs false
set_option maxRecDepth 20000
noncomputable section

/-- Has a number room in j + 1 bytes? -/
def inR (a : Int) (j : Nat) : Bool := a / (128 * 256 ^ j : Nat) == 0 || a / (128 * 256 ^ j : Nat) == -1
/-- How many bytes a number has. -/
def kI (a : Int) : Nat := firstOf (inR a) 7 + 1
theorem first_le (bad : Nat → Bool) (n : Nat) : firstOf bad n ≤ n := by
  have := List.findIdx_le_length (p := bad) (xs := List.range n)
  rw [List.length_range] at this
  exact this
theorem first_no {bad : Nat → Bool} {n j : Nat} (h : j < firstOf bad n) : bad j = false := by
  have := List.not_of_lt_findIdx h
  rw [List.getElem_range] at this
  exact this
theorem first_yes {bad : Nat → Bool} {n : Nat} (h : firstOf bad n < n) : bad (firstOf bad n) = true := by
  have := List.findIdx_getElem (p := bad) (xs := List.range n) (w := by rw [List.length_range]; exact h)
  rw [List.getElem_range] at this
  exact this
theorem kI_le (a : Int) : 1 ≤ kI a ∧ kI a ≤ 8 := by
  have := first_le (inR a) 7
  unfold kI
  omega
theorem kI_no {a : Int} {j : Nat} (h : j + 1 < kI a) : inR a j = false := first_no (n := 7) (by unfold kI at h; omega)
theorem kI_yes {a : Int} (h0 : -9223372036854775808 ≤ a) (h1 : a ≤ 9223372036854775807) : inR a (kI a - 1) = true := by
  unfold kI
  rw [Nat.add_sub_cancel]
  by_cases h : firstOf (inR a) 7 < 7
  · exact first_yes h
  · have h7 : firstOf (inR a) 7 = 7 := Nat.le_antisymm (first_le _ _) (Nat.le_of_not_lt h)
    rw [h7]
    unfold inR
    rw [show ((128 * 256 ^ 7 : Nat) : Int) = 9223372036854775808 from rfl, Bool.or_eq_true, beq_iff_eq, beq_iff_eq]
    omega
theorem fdiv_2 (a : Int) (k : Nat) : a.fdiv ((2 : Int) ^ k) = a / ((2 ^ k : Nat) : Int) := by
  rw [show ((2 : Int) ^ k) = ((2 ^ k : Nat) : Int) by rw [Int.natCast_pow]; rfl, Int.fdiv_eq_ediv_of_nonneg _ (Int.natCast_nonneg _)]
theorem byteI (a : Int) {k i : Nat} (h : k = 8 * i) : IV.int .u8 (IntKind.u8.wrap (a.fdiv ((2 : Int) ^ k))) = .int .u8 ((byteAt a i).toNat : Int) := by
  subst h
  have hb : byteAt a i = u8of (a / ((256 ^ i : Nat) : Int)) := by unfold byteAt; exact Eq.refl _
  rw [hb, iv_u8, fdiv_2, pow8]
theorem cell_be {a : Int} : [IV.int .u8 (IntKind.u8.wrap a)] = u8s (be 1 a) := by
  rw [iv_u8_one]
  show u8s [u8of a] = u8s [u8of (a / ((256 ^ 0 : Nat) : Int))]
  rw [Nat.pow_zero, show ((1 : Nat) : Int) = 1 from rfl, Int.ediv_one]
theorem div_div (a : Int) (m n : Nat) : a / (m : Int) / (n : Int) = a / ((m * n : Nat) : Int) := by
  rw [Int.natCast_mul, Int.ediv_ediv_of_nonneg (Int.natCast_nonneg _)]
theorem int_runs {sp : FuncId → Option SpecF} {a : Int} (h0 : -9223372036854775808 ≤ a) (h1 : a ≤ 9223372036854775807) : ∀ m j : Nat, j + m + 1 = kI a →
    ∃ x, Runs Try.prog hint (acall Try.prog hint (ovrOf sp)) 0 (hint.kp 22) (loopAt Try.prog 22 58) (Sx 22 [.ptr 0 0, .osl 1 0, .int .i64 (a / ((128 * 256 ^ j : Nat) : Int))] [nd0, .row 0 false 1 (u8s (be (j + 1) a).reverse)]) (.exit 0)
      (Sx 22 [.ptr 0 0, .osl 1 0, .int .i64 x] [nd0, .row 0 false 1 (u8s (be (kI a) a).reverse)])
  | 0, j, hj => by
    have ht := int_in sp (a / ((128 * 256 ^ j : Nat) : Int)) (u8s (be (j + 1) a).reverse)
    have hy := kI_yes h0 h1
    have hk : kI a = j + 1 := by omega
    rw [hk] at hy ⊢
    rw [show j + 1 - 1 = j by omega] at hy
    unfold inR at hy
    generalize a / ((128 * 256 ^ j : Nat) : Int) = y at *
    refine ⟨y, Runs.last (n := 30) (ls := fun _ _ => none) loops_none inner0 (by simp) (ht.trans (bif_stepF ?_ rfl))⟩
    rw [bne, bne]
    cases h1 : (y == 0)
    · rw [h1] at hy
      rw [show (y == -1) = true from hy]; rfl
    · rfl
  | m + 1, j, hj => by
    have ht := int_in sp (a / ((128 * 256 ^ j : Nat) : Int)) (u8s (be (j + 1) a).reverse)
    obtain ⟨x, ih⟩ := int_runs h0 h1 m (j + 1) (by omega)
    refine ⟨x, ?_⟩
    have hn := kI_no (a := a) (j := j) (by omega)
    unfold inR at hn
    rw [Bool.or_eq_false_iff] at hn
    have h8 := (kI_le a).2
    have e1 : IV.int .u8 (IntKind.u8.wrap ((a / ((128 * 256 ^ j : Nat) : Int)).fdiv ((2 : Int) ^ (1 : Nat)))) = .int .u8 ((byteAt a (j + 1)).toNat : Int) := by
      have hp : 128 * 256 ^ j * 2 ^ 1 = 256 ^ (j + 1) := by rw [Nat.pow_succ]; omega
      have hb : byteAt a (j + 1) = u8of (a / ((256 ^ (j + 1) : Nat) : Int)) := by unfold byteAt; exact Eq.refl _
      rw [hb, iv_u8, fdiv_2, div_div, hp]
    have e2 : (a / ((128 * 256 ^ j : Nat) : Int)).fdiv ((2 : Int) ^ (8 : Nat)) = a / ((128 * 256 ^ (j + 1) : Nat) : Int) := by
      have hp : 128 * 256 ^ j * 2 ^ 8 = 128 * 256 ^ (j + 1) := by rw [Nat.pow_succ]; omega
      rw [fdiv_2, div_div, hp]
    rw [e1, e2, show [IV.int .u8 ((byteAt a (j + 1)).toNat : Int)] = u8s [byteAt a (j + 1)] from rfl] at ht
    have e3 : u8s (be (j + 1) a).reverse ++ u8s [byteAt a (j + 1)] = u8s (be (j + 1 + 1) a).reverse := by
      rw [be_one (j + 1), List.reverse_cons, u8s_app]
    rw [e3] at ht
    refine Runs.step (n := 30) (ls := fun _ _ => none) loops_none inner0 (ht.trans (bif_step ?_ (bif_step (decide_eq_true ?_) rfl))) ih
    · rw [bne, bne, hn.1, hn.2]; rfl
    · rw [roomB_nat, maxLen_val, u8s_len, u8s_len, List.length_reverse, be_len]
      simp only [List.length_cons, List.length_nil]
      omega
def intP (c : Int → Bool) (g : Int → List IV) : SpecF := fun us T => match us, T with
  | [.int .i64 a], [] => [(c a, ndV 2 none false 1 (g a) (some true) true 0 [], [])]
  | _, _ => []
def cI (a : Int) : Bool := decide (-9223372036854775808 ≤ a ∧ a ≤ 9223372036854775807)
def gI (a : Int) : List IV := u8s (be (kI a) a)
theorem cRev_be {l : List UInt8} (h : l.length ≤ 8) : cRev (u8s l) = true := by
  unfold cRev
  rw [u8s_len, decide_eq_true h]
  show isInts .u8 (u8s _) = true
  unfold u8s
  rw [show (fun b : UInt8 => IV.int .u8 (b.toNat : Int)) = (IV.int .u8) ∘ (fun b : UInt8 => (b.toNat : Int)) from rfl, ← List.map_map]
  exact isInts_map _ _
theorem int_known : Known Try.prog hint 22 (intP cI gI) := by
  refine known_frz1 fits fun us T v T1 h => ?_
  unfold intP at h
  split at h
  case h_2 => cases h
  rename_i a
  simp only [List.mem_cons, List.not_mem_nil, or_false, Prod.mk.injEq, Bool.true_eq, cI, decide_eq_true_eq] at h
  obtain ⟨⟨h1, h2⟩, rfl, rfl⟩ := h
  have h8 := kI_le a
  obtain ⟨x, q⟩ := int_runs (sp := tab [(40, revP cRev)]) h1 h2 (kI a - 1) 0 (by omega)
  have e0 : a.fdiv ((2 : Int) ^ (7 : Nat)) = a / ((128 * 256 ^ 0 : Nat) : Int) := by rw [fdiv_2]
  have e1 : u8s (be (0 + 1) a).reverse = [IV.int .u8 (IntKind.u8.wrap a)] := by rw [cell_be]; rfl
  rw [e1, ← e0] at q
  have ht := int_call (atB [.ptr 0 0, .osl 1 0, .int .i64 (a.fdiv ((2 : Int) ^ (7 : Nat)))] [nd0, .row 0 false 1 [IV.int .u8 (IntKind.u8.wrap a)]]) cRev a x (u8s (be (kI a) a).reverse)
  rw [u8s_rev, List.reverse_reverse] at ht
  refine ⟨rfl, rfl, noGd_of rfl, _, _, tab_cons rev_known tab_nil, ltab_run (by kernel_rfl) q ltab_nil (by kernel_rfl), 30, .agg [.int .i64 2, .osl 0 0, .fsl (some true) true 0 []], [.row 0 false 1 (u8s (be (kI a) a))], _, [0], ht.trans (bif_step at_t (bif_step (cRev_be (by rw [List.length_reverse, be_len]; omega)) ?_)), rfl, Wk.refl _⟩
  cases scalar (IV.tup []) && [Blk.row (0 : Nat) false (1 : Nat) (u8s (be (kI a) a))].all scalarB <;> rfl
theorem rint_known : Known Try.prog hint 23 (intP cI gI) := by
  refine known_frz1 fits fun us T v T1 h => ?_
  unfold intP at h
  split at h
  case h_2 => cases h
  rename_i a
  simp only [List.mem_cons, List.not_mem_nil, or_false, Prod.mk.injEq, Bool.true_eq, cI, decide_eq_true_eq] at h
  obtain ⟨⟨h1, h2⟩, rfl, rfl⟩ := h
  refine ⟨rfl, rfl, noGd_of rfl, fun _ => none, fun _ _ => none, (fun f F h => by cases h), loops_none, 30, .agg [.int .i64 2, .osl 0 0, .fsl (some true) true 0 []], [.row 0 false 1 (gI a)], _, [0], ?_, rfl, Wk.refl _⟩
  have ht := rint_tree a
  have key : ∀ (p : Int) (b : Bool), ((bif bif b then p != (0 : Int) else false then p != (-1 : Int) else false) = (b && !(p == 0 || p == -1))) := by
    intro p b
    cases b <;> cases h0 : (p == 0) <;> simp [bne, h0]
  rw [byteI a (k := 0) (i := 0) rfl, byteI a (k := 8) (i := 1) rfl, byteI a (k := 16) (i := 2) rfl, byteI a (k := 24) (i := 3) rfl, byteI a (k := 32) (i := 4) rfl, byteI a (k := 40) (i := 5) rfl, byteI a (k := 48) (i := 6) rfl, byteI a (k := 56) (i := 7) rfl,
    key, key, key, key, key, key, key, fdiv_2, fdiv_2, fdiv_2, fdiv_2, fdiv_2, fdiv_2, fdiv_2] at ht
  refine ht.trans ?_
  have hR : ∀ j : Nat, inR a j = (a / (128 * 256 ^ j : Nat) == 0 || a / (128 * 256 ^ j : Nat) == -1) := fun j => Eq.refl _
  have fin : ∀ j : Nat, j < 7 → (∀ i, i < j → inR a i = false) → inR a j = true → kI a = j + 1 := fun j hj hi hy => by
    unfold kI
    rw [firstOf_eq hj hy hi]
  have fin7 : (∀ i, i < 7 → inR a i = false) → kI a = 8 := fun hi => by
    unfold kI
    have := first_le (inR a) 7
    by_cases h : firstOf (inR a) 7 < 7
    · have := first_yes h; rw [hi _ h] at this; cases this
    · omega
  have r0 : a / ((2 ^ 7 : Nat) : Int) = a / ((128 * 256 ^ 0 : Nat) : Int) := Eq.refl _
  have r1 : a / ((2 ^ 15 : Nat) : Int) = a / ((128 * 256 ^ 1 : Nat) : Int) := Eq.refl _
  have r2 : a / ((2 ^ 23 : Nat) : Int) = a / ((128 * 256 ^ 2 : Nat) : Int) := Eq.refl _
  have r3 : a / ((2 ^ 31 : Nat) : Int) = a / ((128 * 256 ^ 3 : Nat) : Int) := Eq.refl _
  have r4 : a / ((2 ^ 39 : Nat) : Int) = a / ((128 * 256 ^ 4 : Nat) : Int) := Eq.refl _
  have r5 : a / ((2 ^ 47 : Nat) : Int) = a / ((128 * 256 ^ 5 : Nat) : Int) := Eq.refl _
  have r6 : a / ((2 ^ 55 : Nat) : Int) = a / ((128 * 256 ^ 6 : Nat) : Int) := Eq.refl _
  rw [r0, r1, r2, r3, r4, r5, r6, ← hR 0, ← hR 1, ← hR 2, ← hR 3, ← hR 4, ← hR 5, ← hR 6]
  unfold gI
  cases b0 : inR a 0
  case true =>
    refine bif_stepF (by rw [Bool.not_true, Bool.and_false]) ?_
    rw [fin 0 (by omega) (fun i hi => absurd hi (by omega)) b0]
    exact Eq.refl _
  refine bif_step (by rw [Bool.not_false, Bool.and_true]; decide) ?_
  cases b1 : inR a 1
  case true =>
    refine bif_stepF (by rw [Bool.not_true, Bool.and_false]) ?_
    rw [fin 1 (by omega) (fun i hi => by obtain rfl := (by omega : i = 0); assumption) b1]
    exact Eq.refl _
  refine bif_step (by rw [Bool.not_false, Bool.and_true]; decide) ?_
  cases b2 : inR a 2
  case true =>
    refine bif_stepF (by rw [Bool.not_true, Bool.and_false]) ?_
    rw [fin 2 (by omega) (fun i hi => by rcases (by omega : i = 0 ∨ i = 1) with rfl | rfl <;> assumption) b2]
    exact Eq.refl _
  refine bif_step (by rw [Bool.not_false, Bool.and_true]; decide) ?_
  cases b3 : inR a 3
  case true =>
    refine bif_stepF (by rw [Bool.not_true, Bool.and_false]) ?_
    rw [fin 3 (by omega) (fun i hi => by rcases (by omega : i = 0 ∨ i = 1 ∨ i = 2) with rfl | rfl | rfl <;> assumption) b3]
    exact Eq.refl _
  refine bif_step (by rw [Bool.not_false, Bool.and_true]; decide) ?_
  cases b4 : inR a 4
  case true =>
    refine bif_stepF (by rw [Bool.not_true, Bool.and_false]) ?_
    rw [fin 4 (by omega) (fun i hi => by rcases (by omega : i = 0 ∨ i = 1 ∨ i = 2 ∨ i = 3) with rfl | rfl | rfl | rfl <;> assumption) b4]
    exact Eq.refl _
  refine bif_step (by rw [Bool.not_false, Bool.and_true]; decide) ?_
  cases b5 : inR a 5
  case true =>
    refine bif_stepF (by rw [Bool.not_true, Bool.and_false]) ?_
    rw [fin 5 (by omega) (fun i hi => by rcases (by omega : i = 0 ∨ i = 1 ∨ i = 2 ∨ i = 3 ∨ i = 4) with rfl | rfl | rfl | rfl | rfl <;> assumption) b5]
    exact Eq.refl _
  refine bif_step (by rw [Bool.not_false, Bool.and_true]; decide) ?_
  cases b6 : inR a 6
  case true =>
    refine bif_stepF (by rw [Bool.not_true, Bool.and_false]) ?_
    rw [fin 6 (by omega) (fun i hi => by rcases (by omega : i = 0 ∨ i = 1 ∨ i = 2 ∨ i = 3 ∨ i = 4 ∨ i = 5) with rfl | rfl | rfl | rfl | rfl | rfl <;> assumption) b6]
    exact Eq.refl _
  refine bif_step (by rw [Bool.not_false, Bool.and_true]; decide) ?_
  rw [fin7 (fun i hi => by
    have hi : i = 0 ∨ i = 1 ∨ i = 2 ∨ i = 3 ∨ i = 4 ∨ i = 5 ∨ i = 6 := by omega
    rcases hi with rfl | rfl | rfl | rfl | rfl | rfl | rfl <;> assumption)]
  exact Eq.refl _
end
end Go.Proofs.Ytolpgbgmldpneaa
