/- What Parse answers: what is proved of the given program. It bears no condition. -/
import Derived.Test.YthnleapnhkkeoaaDoorSpI
namespace Go.Proofs.YthnleapnhkkeoaaDoor
open Go Go.Im
set_option linter.unusedVariables false
set_option linter.unusedSimpArgs false
noncomputable section

def partN (n : Nat) : Nat := if 0 < n * 4294967296 % 10000000000 then n * 4294967296 / 10000000000 + 1 else n * 4294967296 / 10000000000
def secS (s : List UInt8) : Nat := secN s (s.length - 11) s.length
def numS (s : List UInt8) : Nat := numN s (s.length - 11) s.length
def digB (p : Int) (c : Nat → Int) : Bool := dI 9 p == c 0 && (dI 8 p == c 1 && (dI 7 p == c 2 && (dI 6 p == c 3 && (dI 5 p == c 4 && (dI 4 p == c 5 && (dI 3 p == c 6 && (dI 2 p == c 7 && (dI 1 p == c 8 && (dI 0 p == c 9 && true)))))))))
def psG (s : List UInt8) : Bool := decide (12 ≤ s.length ∧ s.length ≤ 21 ∧ (s.getD (s.length - 11) 0).toNat = 46 ∧ ¬((s.getD 0 0).toNat = 48 ∧ 12 < s.length) ∧ pfb s = none ∧ secS s ≤ 4294967295 ∧ partN (numS s) ≤ 4294967295) && digB ((partN (numS s) : Nat) : Int) (ceI s)
def psO (s : List UInt8) : Option Nat := bif psG s then some (secS s * 4294967296 + partN (numS s)) else none
def oT (o : Option Nat) : Int := match o with | some t => (t : Int) | none => 0
def oE (o : Option Nat) : Int := match o with | some _ => 0 | none => 40
def parseF (o : List UInt8 → Option Nat) : SpecF := fun xs T => match xs, T with
  | [.str s], [] => [(decide (s.length ≤ 1000000), .tup [.int .u64 (oT (o s)), .int .i64 (oE (o s))], [])]
  | _, _ => []
theorem known_sub {f : FuncId} {F F1 : SpecF} (k1 : Known Tryd.prog hint f F1) (h : ∀ xs T x, (F xs T).find? (·.1) = some x → (F1 xs T).find? (·.1) = some x) : Known Tryd.prog hint f F := by
  intro g xs T r T1 hr
  simp only at hr
  split at hr
  · rename_i hg
    subst hg
    obtain ⟨x, hF, e⟩ := Option.map_eq_some_iff.1 hr
    have h := h _ _ _ hF
    exact k1 g xs T r T1 (by simp only [if_true]; rw [h]; exact congrArg some e)
  · cases hr
def qI (h l : Int) : Int := (h * 18446744073709551616 + l) / 10000000000
def rI (h l : Int) : Int := (h * 18446744073709551616 + l) % 10000000000
def cI (h l : Int) : Bool := decide ((10000000000 : Int) = 10000000000 ∧ 0 ≤ h ∧ 0 ≤ l ∧ l < 18446744073709551616 ∧ l % 4294967296 = 0 ∧ h * 4294967296 + l / 4294967296 < 10000000000)
theorem divP_known : Known Tryd.prog hint 38 (divP qI rI cI) := by
  refine known_sub div_known fun xs T x h => ?_
  unfold divP at h
  unfold divF
  split at h
  · unfold cI qI rI at h
    exact h
  · cases h
theorem tabQ_ok : ∀ f F, tabQ dI qI rI cI f = some F → Known Tryd.prog hint f F := tab_cons ten_known (tab_cons divP_known tab_nil)
theorem parse_tail {s : List UInt8} (c1 : 12 ≤ s.length ∧ s.length ≤ 21) (c2 : (s.getD (s.length - 11) 0).toNat = 46) (c3 : ¬((s.getD 0 0).toNat = 48 ∧ 12 < s.length)) (c4 : pfb s = none)
    (bad : psG s = false → some (IV.tup [IV.int .u64 0, IV.int .i64 40], ([] : List Blk)) = some (IV.tup [IV.int .u64 (oT (psO s)), IV.int .i64 (oE (psO s))], [])) :
    (bif (bif decide (((secS s : Nat) : Int) > 4294967295) then true else decide (((partN (numS s) : Nat) : Int) > 4294967295)) == false then
    bif decide ((0 : Int) ≤ IntKind.u32.wrap ((partN (numS s) : Nat) : Int) ∧ IntKind.u32.wrap ((partN (numS s) : Nat) : Int) < 4294967296) then
      bif (bif false then true else !digB (IntKind.u32.wrap ((partN (numS s) : Nat) : Int)) (ceI s)) then some (IV.tup [IV.int .u64 0, IV.int .i64 40], ([] : List Blk))
      else some (IV.tup [IV.int .u64 (ibits .or .u64 (IntKind.u64.wrap (IntKind.u64.wrap (IntKind.u32.wrap ((secS s : Nat) : Int)) * 4294967296)) (IntKind.u64.wrap (IntKind.u32.wrap ((partN (numS s) : Nat) : Int)))), IV.int .i64 0], [])
    else none else some (IV.tup [IV.int .u64 0, IV.int .i64 40], [])) = some (IV.tup [IV.int .u64 (oT (psO s)), IV.int .i64 (oE (psO s))], []) := by
  by_cases d1 : secS s ≤ 4294967295 ∧ partN (numS s) ≤ 4294967295
  case neg =>
    refine bif_stepF ?_ (bad ?_)
    · by_cases h : ((secS s : Nat) : Int) > 4294967295
      · rw [decide_eq_true h]; rfl
      · rw [decide_eq_true (show ((partN (numS s) : Nat) : Int) > 4294967295 by omega)]; simp
    · unfold psG
      rw [decide_eq_false (fun h => d1 ⟨h.2.2.2.2.2.1, h.2.2.2.2.2.2⟩), Bool.false_and]
  rw [wu32_nat d1.2, wu32_nat d1.1, wu_nat (a := secS s) (by omega), wu_nat (a := partN (numS s)) (by omega), show ((secS s : Nat) : Int) * 4294967296 = ((secS s * 4294967296 : Nat) : Int) by omega, wu_nat (by omega), ior32 (by omega) (by omega)]
  refine bif_step (by rw [decide_eq_false (by omega), decide_eq_false (by omega)]; rfl) (bif_step (decide_eq_true (by omega)) ?_)
  have hG : psG s = digB ((partN (numS s) : Nat) : Int) (ceI s) := by
    unfold psG
    rw [decide_eq_true ⟨c1.1, c1.2, c2, c3, c4, d1.1, d1.2⟩, Bool.true_and]
  cases d2 : digB ((partN (numS s) : Nat) : Int) (ceI s)
  · exact bif_step rfl (bad (hG.trans d2))
  · refine bif_stepF rfl ?_
    unfold psO
    rw [hG, d2]; rfl

theorem parse_known : Known Tryd.prog hint 16 (parseF psO) := by
  refine known_of fits tabQ_ok (pa_ls _) ?_
  intro xs T v T1 h
  unfold parseF at h
  split at h
  case h_2 => cases h
  rename_i s
  simp only [List.mem_cons, List.not_mem_nil, or_false, Prod.mk.injEq, Bool.true_eq, decide_eq_true_eq] at h
  obtain ⟨hl, rfl, rfl⟩ := h
  refine ⟨30, (pa_call s dI qI rI cI okcI badcI seI nuI sbI nbI ibI ceI cbI).trans ?_⟩
  have e0 : IntKind.i64.wrap ((s.length : Int) - 11) = (s.length : Int) - 11 := by rw [wrap_i64]; omega
  rw [e0]
  have bad : psG s = false → some (IV.tup [IV.int .u64 0, IV.int .i64 40], ([] : List Blk)) = some (IV.tup [IV.int .u64 (oT (psO s)), IV.int .i64 (oE (psO s))], []) := by
    intro h
    unfold psO
    rw [h]; rfl
  by_cases c1 : 12 ≤ s.length ∧ s.length ≤ 21
  case neg =>
    refine bif_stepF ?_ (bad ?_)
    · by_cases h : (s.length : Int) - 11 < 1
      · rw [decide_eq_true h]; rfl
      · rw [decide_eq_true (show (s.length : Int) - 11 > 10 by omega)]; simp
    · unfold psG
      rw [decide_eq_false (fun h => c1 ⟨h.1, h.2.1⟩), Bool.false_and]
  refine bif_step (by rw [decide_eq_false (show ¬ (s.length : Int) - 11 < 1 by omega), decide_eq_false (show ¬ (s.length : Int) - 11 > 10 by omega)]; rfl) (bif_step (decide_eq_true (by omega)) ?_)
  have e1 : ((s.length : Int) - 11).toNat = s.length - 11 := by omega
  rw [e1]
  by_cases c2 : (s.getD (s.length - 11) 0).toNat = 46
  case neg =>
    refine bif_stepF ?_ (bad ?_)
    · rw [cond_false, bne_iff_ne.2 (show ((s.getD (s.length - 11) 0).toNat : Int) ≠ 46 by omega)]; rfl
    · unfold psG
      rw [decide_eq_false (fun h => c2 h.2.2.1), Bool.false_and]
  refine bif_step (by rw [cond_false, c2]; rfl) (bif_step (decide_eq_true (by omega)) ?_)
  by_cases c3 : (s.getD 0 0).toNat = 48 ∧ 12 < s.length
  · refine bif_step ?_ (bad ?_)
    · rw [cond_false, c3.1, decide_eq_true (show (s.length : Int) - 11 > 1 by omega)]; rfl
    · unfold psG
      rw [decide_eq_false (fun h => h.2.2.2.1 c3), Bool.false_and]
  refine bif_stepF ?_ ?_
  · rw [cond_false]
    by_cases h : (s.getD 0 0).toNat = 48
    · rw [decide_eq_false (show ¬ (s.length : Int) - 11 > 1 by omega)]; simp
    · rw [beq_eq_false_iff_ne.2 (show ((s.getD 0 0).toNat : Int) ≠ 48 by omega)]; rfl
  have hat : atOK s ((s.length : Int) - 11) (s.length : Int) = true := by
    exact decide_eq_true ⟨by omega, by omega, rfl, by omega⟩
  cases c4 : pfb s with
  | some j =>
    refine bif_step ?_ (bad ?_)
    · unfold badcI; rw [hat, c4]; rfl
    · unfold psG
      rw [decide_eq_false (fun h => by rw [c4] at h; simp at h), Bool.false_and]
  | none =>
  refine bif_stepF (by unfold badcI; rw [hat, c4]; rfl) (bif_step (by unfold okcI; rw [hat, c4]; rfl) ?_)
  have hnb : ∀ j, j < s.length → badAt s (s.length - 11) j = false := fun j hj => fb_none s.length 0 c4 j (by omega) (by omega)
  obtain ⟨n1, n2⟩ := num_nat (s := s) (A := s.length - 11) s.length (by omega) hnb
  obtain ⟨m1, m2⟩ := sec_nat (s := s) (A := s.length - 11) (by omega) s.length hnb
  rw [show s.length - (s.length - 11 + 1) = 10 by omega] at n2
  have hp : 10 ^ min s.length (s.length - 11) ≤ 10 ^ 10 := Nat.pow_le_pow_right (by decide) (by omega)
  have en : nuI s = ((numS s : Nat) : Int) := n1
  have es : seI s = ((secS s : Nat) : Int) := m1
  have hn : numS s < 10000000000 := n2
  have hs : secS s < 10000000001 := by show secN s _ _ < _; omega
  rw [en, es]
  have p32 : (2 : Int) ^ (32 : Nat) = 4294967296 := rfl
  rw [p32]
  have eh : Int.fdiv ((numS s : Nat) : Int) 4294967296 = ((numS s / 4294967296 : Nat) : Int) := by rw [Int.fdiv_eq_ediv_of_nonneg _ (by decide)]; rfl
  have el : IntKind.u64.wrap (((numS s : Nat) : Int) * 4294967296) = ((numS s * 4294967296 % 18446744073709551616 : Nat) : Int) := by
    rw [show ((numS s : Nat) : Int) * 4294967296 = ((numS s * 4294967296 : Nat) : Int) by omega, n_u64]
  rw [eh, el]
  have e64 : numS s * 4294967296 / 18446744073709551616 = numS s / 4294967296 := Nat.mul_div_mul_right (numS s) 4294967296 (m := 4294967296) (by decide)
  have hc : cI ((numS s / 4294967296 : Nat) : Int) ((numS s * 4294967296 % 18446744073709551616 : Nat) : Int) = true := by
    exact decide_eq_true ⟨rfl, by omega, by omega, by omega, by omega, by omega⟩
  have hq : qI ((numS s / 4294967296 : Nat) : Int) ((numS s * 4294967296 % 18446744073709551616 : Nat) : Int) = ((numS s * 4294967296 / 10000000000 : Nat) : Int) := by unfold qI; omega
  have hr : rI ((numS s / 4294967296 : Nat) : Int) ((numS s * 4294967296 % 18446744073709551616 : Nat) : Int) = ((numS s * 4294967296 % 10000000000 : Nat) : Int) := by unfold rI; omega
  refine bif_step hc ?_
  rw [hq, hr]
  have tail := parse_tail c1 c2 c3 c4 bad
  by_cases d : 0 < numS s * 4294967296 % 10000000000
  · have ep : partN (numS s) = numS s * 4294967296 / 10000000000 + 1 := by unfold partN; rw [if_pos d]
    have ew : IntKind.u64.wrap (((numS s * 4294967296 / 10000000000 : Nat) : Int) + 1) = ((partN (numS s) : Nat) : Int) := by rw [ep, wrap_u64]; omega
    refine bif_step (decide_eq_true (by omega)) ?_
    rw [ew]
    exact tail
  · have ep : partN (numS s) = numS s * 4294967296 / 10000000000 := by unfold partN; rw [if_neg d]
    have d0 : numS s * 4294967296 % 10000000000 = 0 := Nat.eq_zero_of_not_pos d
    rw [d0, ← ep]
    exact bif_stepF rfl tail
end
end Go.Proofs.YthnleapnhkkeoaaDoor
