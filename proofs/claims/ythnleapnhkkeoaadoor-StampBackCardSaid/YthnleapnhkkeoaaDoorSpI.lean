/- What Parse's loop comes to, and what Parse answers: what is proved of the given program. It bears no condition. -/
import Derived.Test.YthnleapnhkkeoaaDoorSpH
namespace Go.Proofs.YthnleapnhkkeoaaDoor
open Go Go.Im
set_option linter.unusedVariables false
set_option linter.unusedSimpArgs false
noncomputable section

/-- The first byte that is no digit, from a place on. -/
def fb (s : List UInt8) (A : Nat) : Nat → Nat → Option Nat
  | 0, _ => none
  | k + 1, i => bif badAt s A i then some i else fb s A k (i + 1)
def paE (o : Option Nat) : Ex := match o with | none => .exit 0 | some _ => .ret
def paX (s : List UInt8) (A : Nat) (o : Option Nat) : St := match o with | none => paT s A (A + 11) | some j => paR s A j
theorem pa_runs (sp : FuncId → Option SpecF) {s : List UInt8} {A : Nat} (h1 : 1 ≤ A) (h2 : A ≤ 10) (hl : s.length = A + 11) : ∀ k i, i + k = A + 11 →
    Runs Tryd.prog hint (acall Tryd.prog hint (ovrOf sp)) 0 (hint.kp 16) (loopAt Tryd.prog 16 506) (paT s A i) (paE (fb s A k i)) (paX s A (fb s A k i))
  | 0, i, h => by
    have e : i = A + 11 := by omega
    subst e
    have := pr_end sp s (secAt s A (A + 11)) (numAt s A (A + 11)) (cellAt s A (A + 11)) h1 h2
    have hl' : ((s.length : Nat) : Int) = ((A + 11 : Nat) : Int) := by rw [hl]
    refine Runs.last (n := 30) (ls := fun _ _ => none) (s' := paT s A (A + 11)) loops_none inner0 (by simp [paE, fb]) ?_
    show Rd sp 16 506 (paT s A (A + 11)) = some (Ex.exit 0, paT s A (A + 11))
    unfold paT
    rw [hl']
    exact this
  | k + 1, i, h => by
    have hr := ps_all sp s (secAt s A i) (numAt s A i) (cellAt s A i) h1 h2 hl (show i < A + 11 by omega)
    unfold pstep at hr
    unfold fb
    cases hb : badAt s A i
    · rw [hb, cond_false] at hr
      rw [cond_false]
      refine Runs.step (ls := fun _ _ => none) loops_none inner0 (hr.trans ?_) (pa_runs sp h1 h2 hl k (i + 1) (by omega))
      rfl
    · rw [hb, cond_true] at hr
      rw [cond_true]
      exact Runs.last (ls := fun _ _ => none) loops_none inner0 (by simp [paE]) hr
def pfb (s : List UInt8) : Option Nat := fb s (s.length - 11) s.length 0
def atOK (s : List UInt8) (a len : Int) : Bool := decide (1 ≤ a ∧ a ≤ 10 ∧ len = s.length ∧ (s.length : Int) = a + 11)
def okcI (s : List UInt8) (a len : Int) : Bool := atOK s a len && (pfb s).isNone
def badcI (s : List UInt8) (a len : Int) : Bool := atOK s a len && (pfb s).isSome
def seI (s : List UInt8) : Int := secAt s (s.length - 11) s.length
def nuI (s : List UInt8) : Int := numAt s (s.length - 11) s.length
def ceI (s : List UInt8) : Nat → Int := cellAt s (s.length - 11) s.length
def ibI (s : List UInt8) : Int := (((pfb s).getD 0 : Nat) : Int)
def sbI (s : List UInt8) : Int := secAt s (s.length - 11) ((pfb s).getD 0)
def nbI (s : List UInt8) : Int := numAt s (s.length - 11) ((pfb s).getD 0)
def cbI (s : List UInt8) : Nat → Int := cellAt s (s.length - 11) ((pfb s).getD 0)
theorem pa_ls (sp : FuncId → Option SpecF) : LoopsOK Tryd.prog hint (acall Tryd.prog hint (ovrOf sp)) (paLs okcI badcI seI nuI sbI nbI ibI ceI cbI) := by
  refine ltab_cons (by kernel_rfl) (loopF_ok fun vs bx e vs' bx' h => ?_) ltab_nil
  unfold paG at h
  split at h
  case h_2 => cases h
  rename_i s a len
  have go : ∀ o, atOK s a len = true → pfb s = o → Runs Tryd.prog hint (acall Tryd.prog hint (ovrOf sp)) 0 (hint.kp 16) (loopAt Tryd.prog 16 506) (paS s 0 0 a 0 0 len 0 (tenB fun _ => 0)) (paE o) (paX s (s.length - 11) o) := by
    intro o h1 h2
    simp only [atOK, decide_eq_true_eq] at h1
    obtain ⟨h1, h3, rfl, h4⟩ := h1
    have := pa_runs sp (s := s) (A := s.length - 11) (by omega) (by omega) (by omega) s.length 0 (by omega)
    rw [show fb s (s.length - 11) s.length 0 = o from h2] at this
    have ea : ((s.length - 11 : Nat) : Int) = a := by omega
    unfold paT at this
    rw [ea] at this
    exact this
  simp only [List.mem_cons, List.not_mem_nil, or_false, Prod.mk.injEq, Bool.true_eq] at h
  rcases h with ⟨h1, rfl, rfl, rfl⟩ | ⟨h1, rfl, rfl, rfl⟩
  · simp only [badcI, Bool.and_eq_true] at h1
    obtain ⟨h1, h2⟩ := h1
    obtain ⟨j, hj⟩ := Option.isSome_iff_exists.1 h2
    have := go (some j) h1 hj
    simp only [atOK, decide_eq_true_eq] at h1
    have ea : ((s.length - 11 : Nat) : Int) = a := by omega
    have el : ((s.length : Nat) : Int) = len := by omega
    unfold sbI nbI ibI cbI
    rw [hj]
    unfold paX paR at this
    rw [ea, el] at this
    exact this
  · simp only [okcI, Bool.and_eq_true, Option.isNone_iff_eq_none] at h1
    obtain ⟨h1, hj⟩ := h1
    have := go none h1 hj
    simp only [atOK, decide_eq_true_eq] at h1
    have ea : ((s.length - 11 : Nat) : Int) = a := by omega
    have el : ((s.length : Nat) : Int) = len := by omega
    have e11 : s.length - 11 + 11 = s.length := by omega
    unfold seI nuI ceI
    unfold paX paT at this
    rw [e11, ea, el] at this
    exact this

/-! ### The numbers that are read -/
def dgt (s : List UInt8) (i : Nat) : Nat := (s.getD i 0).toNat - 48
def secN (s : List UInt8) (A : Nat) : Nat → Nat
  | 0 => 0
  | i + 1 => if i < A then 10 * secN s A i + dgt s i else secN s A i
def numN (s : List UInt8) (A : Nat) : Nat → Nat
  | 0 => 0
  | i + 1 => if A < i then 10 * numN s A i + dgt s i else numN s A i
theorem notBad {s : List UInt8} {A i : Nat} (h : badAt s A i = false) (hi : i ≠ A) : 48 ≤ (s.getD i 0).toNat ∧ (s.getD i 0).toNat ≤ 57 := by
  have hb : Nat.beq i A = false := by
    cases hh : Nat.beq i A
    · rfl
    · exact absurd (Nat.eq_of_beq_eq_true hh) hi
  unfold badAt noDig at h
  rw [hb, Bool.not_false, Bool.true_and] at h
  by_cases h1 : chr s i < 48
  · rw [decide_eq_true h1] at h; cases h
  · rw [decide_eq_false h1, cond_false, decide_eq_false_iff_not] at h
    unfold chr at h1 h
    omega
theorem more_nat {s : List UInt8} {i n : Nat} (h : 48 ≤ (s.getD i 0).toNat ∧ (s.getD i 0).toNat ≤ 57) (hn : n < 10000000000000) : more (n : Int) s i = ((10 * n + dgt s i : Nat) : Int) := by
  have e : IntKind.u8.wrap (chr s i - 48) = ((dgt s i : Nat) : Int) := by
    rw [wrap_u8]
    unfold chr dgt
    omega
  have hd : dgt s i ≤ 9 := by unfold dgt; omega
  unfold more
  rw [e, show (10 : Int) * (n : Int) = ((10 * n : Nat) : Int) by omega, wu_nat (by omega), wu_nat (by omega), show ((10 * n : Nat) : Int) + ((dgt s i : Nat) : Int) = ((10 * n + dgt s i : Nat) : Int) by omega, wu_nat (by omega)]
theorem sec_nat {s : List UInt8} {A : Nat} (h2 : A ≤ 10) : ∀ i, (∀ j < i, badAt s A j = false) → secAt s A i = ((secN s A i : Nat) : Int) ∧ secN s A i < 10 ^ min i A
  | 0, _ => by simp [secAt, secN]
  | i + 1, h => by
    obtain ⟨e, hb⟩ := sec_nat h2 i fun j hj => h j (by omega)
    unfold secAt secN
    by_cases hi : i < A
    · rw [if_pos hi, if_pos hi, e]
      have hd := notBad (h i (by omega)) (by omega)
      rw [Nat.min_eq_left (by omega)] at hb ⊢
      have hp : 10 ^ i ≤ 10 ^ 10 := Nat.pow_le_pow_right (by decide) (by omega)
      have hd9 : dgt s i ≤ 9 := by unfold dgt; omega
      refine ⟨more_nat hd (by omega), ?_⟩
      rw [Nat.pow_succ]; omega
    · rw [if_neg hi, if_neg hi]
      rw [Nat.min_eq_right (by omega)] at hb ⊢
      exact ⟨e, hb⟩
theorem num_nat {s : List UInt8} {A : Nat} : ∀ i, i ≤ A + 11 → (∀ j < i, badAt s A j = false) → numAt s A i = ((numN s A i : Nat) : Int) ∧ numN s A i < 10 ^ (i - (A + 1))
  | 0, _, _ => by simp [numAt, numN]
  | i + 1, hi11, h => by
    obtain ⟨e, hb⟩ := num_nat i (by omega) fun j hj => h j (by omega)
    unfold numAt numN
    by_cases hi : A < i
    · rw [if_pos hi, if_pos hi, e]
      have hd := notBad (h i (by omega)) (by omega)
      have hp : 10 ^ (i - (A + 1)) ≤ 10 ^ 10 := Nat.pow_le_pow_right (by decide) (by omega)
      have hd9 : dgt s i ≤ 9 := by unfold dgt; omega
      refine ⟨more_nat hd (by omega), ?_⟩
      rw [show i + 1 - (A + 1) = i - (A + 1) + 1 by omega, Nat.pow_succ]; omega
    · rw [if_neg hi, if_neg hi]
      refine ⟨e, ?_⟩
      rw [show i + 1 - (A + 1) = i - (A + 1) by omega]; exact hb
theorem fb_none {s : List UInt8} {A : Nat} : ∀ k i, fb s A k i = none → ∀ j, i ≤ j → j < i + k → badAt s A j = false
  | 0, i, _, j, h1, h2 => by omega
  | k + 1, i, h, j, h1, h2 => by
    unfold fb at h
    cases hb : badAt s A i
    · rw [hb, cond_false] at h
      by_cases e : j = i
      · rw [e]; exact hb
      · exact fb_none k (i + 1) h j (by omega) (by omega)
    · rw [hb] at h; cases h
theorem none_fb {s : List UInt8} {A : Nat} : ∀ k i, (∀ j, i ≤ j → j < i + k → badAt s A j = false) → fb s A k i = none
  | 0, i, _ => rfl
  | k + 1, i, h => by
    unfold fb
    rw [h i (by omega) (by omega), cond_false]
    exact none_fb k (i + 1) fun j h1 h2 => h j (by omega) (by omega)
theorem cell_nat {s : List UInt8} {A : Nat} : ∀ i k, k < 10 → cellAt s A i k = if A + 1 + k < i then chr s (A + 1 + k) else 0
  | 0, k, _ => by simp [cellAt]
  | i + 1, k, hk => by
    have ih := cell_nat (s := s) (A := A) i k hk
    unfold cellAt
    by_cases hi : A < i
    · rw [if_pos hi]
      cases hb : Nat.beq k (i - A - 1)
      · rw [cond_false, ih]
        have hne : k ≠ i - A - 1 := fun e => by rw [e, Nat.beq_refl] at hb; cases hb
        by_cases h : A + 1 + k < i
        · rw [if_pos h, if_pos (by omega)]
        · rw [if_neg h, if_neg (by omega)]
      · have e := Nat.eq_of_beq_eq_true hb
        rw [cond_true, if_pos (by omega), show A + 1 + k = i by omega]
    · rw [if_neg hi, ih, if_neg (by omega), if_neg (by omega)]
end
end Go.Proofs.YthnleapnhkkeoaaDoor
