/- Which values are right, in plain words. It bears no condition. -/
import Derived.Test.YtolpgbgmldpneaaDrR
namespace Go.Proofs.Ytolpgbgmldpneaa
open Go Go.Im
set_option linter.unusedVariables false
set_option linter.unusedSimpArgs false
set_option maxRecDepth 20000

mutual
def Nd.num : Nd → Nat
  | .mk _ _ ks => 1 + nums ks
def nums : List Nd → Nat
  | [] => 0
  | k :: ks => k.num + nums ks
end
noncomputable section
mutual
def Nd.wel : Nd → Bool
  | .mk t b ks => bif !gMany t then ks.isEmpty && fitsB t b else wels ks && (b.isEmpty && (t == 48 || adjB leB ks))
def wels : List Nd → Bool
  | [] => true
  | k :: ks => k.wel && wels ks
end
mutual
def Nd.rg : Nd → Int → Int → Bool × Int
  | .mk t b ks, lv, n => bif (lv == 0 || decide (n - 1 < 0)) then (false, n - 1) else bif !gMany t then (ks.isEmpty && fitsB t b, n - 1) else
      bif (rgs ks (lv - 1) (n - 1)).1 then (b.isEmpty && (t == 48 || adjB leB ks), (rgs ks (lv - 1) (n - 1)).2) else (false, (rgs ks (lv - 1) (n - 1)).2)
def rgs : List Nd → Int → Int → Bool × Int
  | [], _, n => (true, n)
  | k :: ks, lv, n => bif (k.rg lv n).1 then rgs ks lv (k.rg lv n).2 else (false, (k.rg lv n).2)
end
theorem num_pos (n : Nd) : 1 ≤ n.num := by cases n; unfold Nd.num; omega
mutual
theorem rg_eq : ∀ (x : Nd) (lv m : Int), 0 ≤ lv → 0 ≤ m → (x.rg lv m).1 = (x.wel && decide ((x.num : Int) ≤ m ∧ (x.dp : Int) ≤ lv)) ∧ ((x.rg lv m).1 = true → (x.rg lv m).2 = m - x.num) ∧ m - x.num ≤ (x.rg lv m).2 ∧ (x.rg lv m).2 ≤ m
  | .mk t b ks, lv, m, h1, h2 => by
    have ih := rgs_eq ks (lv - 1) (m - 1)
    unfold Nd.rg Nd.wel Nd.num Nd.dp
    by_cases h0 : lv = 0 ∨ m - 1 < 0
    · have e : (lv == 0 || decide (m - 1 < 0)) = true := by
        rcases h0 with h0 | h0
        · rw [h0]; rfl
        · rw [decide_eq_true h0, Bool.or_true]
      rw [e, cond_true]
      refine ⟨?_, (fun h => absurd h (by simp)), (by simp only; omega), (by simp only; omega)⟩
      rw [decide_eq_false (by omega), Bool.and_false]
    · have e : (lv == 0 || decide (m - 1 < 0)) = false := by
        rw [decide_eq_false (by omega), show (lv == 0) = false from beq_eq_false_iff_ne.2 (by omega)]; rfl
      rw [e, cond_false]
      obtain ⟨i1, i2, i3, i4⟩ := ih (by omega) (by omega)
      cases hm : !gMany t
      · simp only [cond_false]
        cases hr : (rgs ks (lv - 1) (m - 1)).1
        · rw [hr] at i1
          simp only [cond_false]
          refine ⟨?_, (fun h => absurd h (by simp)), by omega, by omega⟩
          have : (wels ks && decide (((1 + nums ks : Nat) : Int) ≤ m ∧ ((1 + dps ks : Nat) : Int) ≤ lv)) = false := by
            rw [i1, show decide (((1 + nums ks : Nat) : Int) ≤ m ∧ ((1 + dps ks : Nat) : Int) ≤ lv) = decide ((nums ks : Int) ≤ m - 1 ∧ (dps ks : Int) ≤ lv - 1) by
              rw [Bool.eq_iff_iff]; simp only [decide_eq_true_eq]; omega]
          cases hw : wels ks
          · rfl
          · rw [hw, Bool.true_and] at this
            rw [this, Bool.and_false]
        · rw [hr] at i1
          have i1' := i1.symm
          rw [Bool.and_eq_true, decide_eq_true_eq] at i1'
          simp only [cond_true]
          refine ⟨?_, fun _ => by rw [i2 hr]; omega, by omega, by omega⟩
          rw [i1'.1, Bool.true_and, decide_eq_true (by omega), Bool.and_true]
      · simp only [cond_true]
        refine ⟨?_, fun h => ?_, by omega, by omega⟩
        · cases ks with
          | nil =>
            have : decide (((1 + nums [] : Nat) : Int) ≤ m ∧ ((1 + dps [] : Nat) : Int) ≤ lv) = true := decide_eq_true (by unfold nums dps; omega)
            rw [this, Bool.and_true]
          | cons k ks => rfl
        · cases ks with
          | nil => unfold nums; omega
          | cons k ks => cases h
theorem rgs_eq : ∀ (ks : List Nd) (lv m : Int), 0 ≤ lv → 0 ≤ m → (rgs ks lv m).1 = (wels ks && decide ((nums ks : Int) ≤ m ∧ (dps ks : Int) ≤ lv)) ∧ ((rgs ks lv m).1 = true → (rgs ks lv m).2 = m - nums ks) ∧ m - nums ks ≤ (rgs ks lv m).2 ∧ (rgs ks lv m).2 ≤ m
  | [], lv, m, h1, h2 => by
    unfold rgs wels nums dps
    exact ⟨by rw [decide_eq_true (by omega)]; rfl, fun _ => by simp, by simp, Int.le_refl _⟩
  | k :: ks, lv, m, h1, h2 => by
    obtain ⟨a1, a2, a3, a4⟩ := rg_eq k lv m h1 h2
    unfold rgs wels nums dps
    cases hr : (k.rg lv m).1
    · rw [hr] at a1
      rw [cond_false]
      refine ⟨?_, (fun h => absurd h (by simp)), ?_, a4⟩
      · cases hw : k.wel
        · rfl
        · rw [hw, Bool.true_and] at a1
          have a1' := of_decide_eq_false a1.symm
          rw [decide_eq_false (by omega), Bool.and_false]
      · show m - ((k.num + nums ks : Nat) : Int) ≤ (k.rg lv m).2
        omega
    · rw [hr] at a1
      have a1' := a1.symm
      rw [Bool.and_eq_true, decide_eq_true_eq] at a1'
      have e2 := a2 hr
      obtain ⟨b1, b2, b3, b4⟩ := rgs_eq ks lv (k.rg lv m).2 h1 (by omega)
      rw [cond_true]
      refine ⟨?_, fun h => by rw [b2 h]; omega, by omega, by omega⟩
      rw [b1, a1'.1, Bool.true_and]
      have hd : decide ((nums ks : Int) ≤ (k.rg lv m).2 ∧ (dps ks : Int) ≤ lv) = decide (((k.num + nums ks : Nat) : Int) ≤ m ∧ ((max k.dp (dps ks) : Nat) : Int) ≤ lv) := by
        rw [Bool.eq_iff_iff]; simp only [decide_eq_true_eq]; omega
      rw [hd]
end
mutual
theorem cnt_eq : ∀ (x : Nd) (m : Int), ((x.num : Int) ≤ m → x.cnt m = ((x.num : Int), (x.dp : Int))) ∧ (m < x.num → m < (x.cnt m).1) ∧ (1 ≤ (x.cnt m).1 ∧ (x.cnt m).1 ≤ x.num) ∧ 1 ≤ (x.cnt m).2 ∧ (x.cnt m).2 ≤ x.dp
  | .mk t b ks, m => by
    obtain ⟨a1, a2, a3, a4, a5, a6⟩ := cnts_eq ks m 1 1 (by omega) (by omega)
    unfold Nd.cnt Nd.num Nd.dp
    refine ⟨fun h => ?_, fun h => a2 (by omega), ⟨a3, by omega⟩, a5, by omega⟩
    rw [a1 (by omega)]
    refine Prod.ext ?_ ?_
    · show (1 : Int) + nums ks = ((1 + nums ks : Nat) : Int); omega
    · show max (1 : Int) (1 + dps ks) = ((1 + dps ks : Nat) : Int); omega
theorem cnts_eq : ∀ (ks : List Nd) (m s d : Int), 1 ≤ s → 1 ≤ d → (s + nums ks ≤ m → cnts ks m s d = (s + nums ks, max d (1 + dps ks))) ∧ (m < s + nums ks → m < (cnts ks m s d).1) ∧ 1 ≤ (cnts ks m s d).1 ∧ (cnts ks m s d).1 ≤ s + nums ks ∧ 1 ≤ (cnts ks m s d).2 ∧ (cnts ks m s d).2 ≤ max d (1 + dps ks)
  | [], m, s, d, h1, h2 => by
    unfold cnts nums dps
    refine ⟨fun _ => Prod.ext ?_ ?_, fun h => ?_, h1, ?_, h2, ?_⟩
    · show s = s + ((0 : Nat) : Int); omega
    · show d = max d (1 + ((0 : Nat) : Int)); omega
    · show m < s; omega
    · show s ≤ s + ((0 : Nat) : Int); omega
    · show d ≤ max d (1 + ((0 : Nat) : Int)); omega
  | k :: ks, m, s, d, h1, h2 => by
    obtain ⟨a1, a2, ⟨a3, a4⟩, a5, a6⟩ := cnt_eq k (m - s)
    have hp := num_pos k
    unfold cnts nums dps
    by_cases hs : s ≤ m
    · rw [decide_eq_true hs, cond_true]
      have hd : ∀ y : Int, (bif decide (y ≥ d) then y + 1 else d) = max d (y + 1) := fun y => by
        by_cases hy : y ≥ d
        · rw [decide_eq_true hy, cond_true]; omega
        · rw [decide_eq_false hy, cond_false]; omega
      rw [hd]
      obtain ⟨b1, b2, b3, b4, b5, b6⟩ := cnts_eq ks m (s + (k.cnt (m - s)).1) (max d ((k.cnt (m - s)).2 + 1)) (by omega) (by omega)
      refine ⟨fun h => ?_, fun h => ?_, b3, by omega, b5, by omega⟩
      · have e := a1 (by omega)
        rw [b1 (by rw [e]; simp only; omega), e]
        refine Prod.ext ?_ ?_
        · show s + (k.num : Int) + nums ks = s + ((k.num + nums ks : Nat) : Int); omega
        · show max (max d ((k.dp : Int) + 1)) (1 + dps ks) = max d (1 + ((max k.dp (dps ks) : Nat) : Int)); omega
      · by_cases hk : (k.num : Int) ≤ m - s
        · have e := a1 hk
          exact b2 (by rw [e]; simp only; omega)
        · have := a2 (by omega)
          exact b2 (by omega)
    · rw [decide_eq_false hs, cond_false]
      refine ⟨fun h => by omega, fun h => ?_, h1, ?_, h2, ?_⟩
      · show m < s; omega
      · show s ≤ s + ((k.num + nums ks : Nat) : Int); omega
      · show d ≤ max d (1 + ((max k.dp (dps ks) : Nat) : Int)); omega
end
/-- Right: by one walk, and by counting and looking. -/
theorem right_eq (x : Nd) : (x.rg 16 4096).1 = ((bif decide ((x.cnt 4096).1 ≤ 4096) then decide ((x.cnt 4096).2 ≤ 16) else false) && x.wel) := by
  obtain ⟨a1, _⟩ := rg_eq x 16 4096 (by omega) (by omega)
  obtain ⟨b1, b2, _⟩ := cnt_eq x 4096
  rw [a1, Bool.and_comm]
  congr 1
  by_cases h : (x.num : Int) ≤ 4096
  · rw [b1 h, decide_eq_true h, cond_true, Bool.eq_iff_iff]
    simp only [decide_eq_true_eq]
    omega
  · have := b2 (by omega)
    rw [decide_eq_false (show ¬ (x.cnt 4096).1 ≤ 4096 by omega), cond_false, decide_eq_false (by omega)]
end
end Go.Proofs.Ytolpgbgmldpneaa
