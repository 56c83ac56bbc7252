/- Natural numbers as values. It bears no condition. -/
import Derived.Test.YtolpgbgmldpneaaDuE
namespace Go.Proofs.Ytolpgbgmldpneaa
open Go Go.Im
set_option linter.unusedVariables false
set_option linter.unusedSimpArgs false
set_option maxRecDepth 20000
noncomputable section

theorem byte_row {ls : List Nat} {j : Nat} (ho : okL ls) (h : j < 8 * ls.length) : ∃ (h8 : j / 8 < ls.length), ls[j / 8] / 256 ^ (j % 8) % 256 = valL ls / 256 ^ j % 256 := by
  have h8 : j / 8 < ls.length := by omega
  exact ⟨h8, limb_dig (by decide) (by decide) (by decide) ho h8⟩
theorem mb_step {V j : Nat} : mb (V / 256 ^ j) = if V / 256 ^ (j + 1) = 0 ∧ V / 256 ^ j % 256 = 0 then [] else mb (V / 256 ^ (j + 1)) ++ [byteAt (V : Int) j] := by
  have hs := div_step (b := 256) (x := V) (i := j) (by decide)
  have hb : byteAt ((V / 256 ^ j : Nat) : Int) 0 = byteAt (V : Int) j := UInt8.toNat_inj.1 (by rw [byteAt_toNat, byteAt_toNat, Nat.pow_zero, Nat.div_one])
  by_cases h : V / 256 ^ (j + 1) = 0 ∧ V / 256 ^ j % 256 = 0
  · rw [if_pos h, mb_nil]; omega
  · rw [if_neg h, mb_pos (by omega), hb, ← div_pow_succ]
theorem nat_runs {sp : FuncId → Option SpecF} {ls : List Nat} (ho : okL ls) (hl : ls.length ≤ 1000000) {nl : Option Bool} {cl : Bool} : ∀ j : Nat, j ≤ 8 * ls.length →
    Runs Try.prog hint (acall Try.prog hint (ovrOf sp)) 0 (hint.kp 24) (loopAt Try.prog 24 58) (Sx 24 [.fsl nl cl 1 (w64s ls), .ptr 0 0, .osl 1 0, .int .i64 ((j : Int) - 1)] [nd0, .row 0 false 1 (u8s (mb (valL ls / 256 ^ j)))]) (.exit 0)
      (Sx 24 [.fsl nl cl 1 (w64s ls), .ptr 0 0, .osl 1 0, .int .i64 (-1)] [nd0, .row 0 false 1 (u8s (mb (valL ls)))])
  | 0, h => by
    have ht := nat_in sp nl cl (w64s ls) (((0 : Nat) : Int) - 1) (u8s (mb (valL ls / 256 ^ 0)))
    rw [Nat.pow_zero, Nat.div_one] at ht ⊢
    exact Runs.last (n := 30) (ls := fun _ _ => none) loops_none inner0 (by simp) (ht.trans (bif_stepF (decide_eq_false (by omega)) rfl))
  | j + 1, h => by
    have ih := nat_runs (sp := sp) ho hl (nl := nl) (cl := cl) j (by omega)
    obtain ⟨h8, e1⟩ := byte_row ho (j := j) (by omega)
    have ht := nat_in sp nl cl (w64s ls) (((j + 1 : Nat) : Int) - 1) (u8s (mb (valL ls / 256 ^ (j + 1))))
    rw [show ((j + 1 : Nat) : Int) - 1 = (j : Int) by omega, tdiv8, tmod8, wi_nat (a := j / 8) (by omega), wmul8 (a := j % 8) (by omega), Int.toNat_natCast, Int.toNat_natCast, w64s_nth h8, cellI', intI', limb_byte (by omega), e1, iv_byte, wsub1 (by omega), w64s_len, u8s_len] at ht
    rw [show ((j + 1 : Nat) : Int) - 1 = (j : Int) by omega]
    replace ht := fun r q => ht.trans (bif_step (r := r) (decide_eq_true (by omega)) (bif_step (decide_eq_true ⟨rfl, by omega, by omega⟩) (bif_step isOf_int (bif_step (decide_eq_true (by omega)) q))))
    have hm := mb_step (V := valL ls) (j := j)
    generalize hc : valL ls / 256 ^ j % 256 = c at *
    have hz : ((((mb (valL ls / 256 ^ (j + 1))).length : Nat) : Int) == 0) = decide (valL ls / 256 ^ (j + 1) = 0) := by
      rw [Bool.eq_iff_iff, beq_iff_eq, decide_eq_true_eq, ← mb_nil]
      constructor
      · intro h; exact List.length_eq_zero_iff.1 (by omega)
      · intro h; rw [h]; rfl
    have hc0 : (((c : Nat) : Int) == 0) = decide (c = 0) := by
      rw [Bool.eq_iff_iff, beq_iff_eq, decide_eq_true_eq]; omega
    rw [hz, hc0] at ht
    by_cases h0 : valL ls / 256 ^ (j + 1) = 0 ∧ c = 0
    · rw [if_pos h0] at hm
      rw [hm] at ih
      have e0 : mb (valL ls / 256 ^ (j + 1)) = [] := mb_nil.2 h0.1
      rw [e0] at ht ⊢
      exact Runs.step (n := 30) (ls := fun _ _ => none) loops_none inner0 (ht _ (bif_step (by rw [decide_eq_true h0.2, decide_eq_true h0.1]; rfl) rfl)) ih
    · rw [if_neg h0] at hm
      rw [hm, u8s_app] at ih
      have hlen : (mb (valL ls / 256 ^ (j + 1))).length ≤ 8 * ls.length := mb_len (Nat.lt_of_le_of_lt (Nat.div_le_self _ _) (valL_lt ho))
      refine Runs.step (n := 30) (ls := fun _ _ => none) loops_none inner0 (ht _ (bif_stepF ?_ (bif_step (decide_eq_true ?_) rfl))) ih
      · cases hcc : decide (c = 0)
        · rfl
        · cases hvv : decide (valL ls / 256 ^ (j + 1) = 0)
          · rfl
          · exact absurd ⟨of_decide_eq_true hvv, of_decide_eq_true hcc⟩ h0
      · rw [roomB_nat, maxLen_val, u8s_len, List.length_singleton]; omega
def natP (c : Bool → List IV → Bool) (g : List IV → List IV) : SpecF := fun us T => match us, T with
  | [.fsl nl cl 1 l], [] => [(c cl l, ndV 2 none false 1 (g l) (some true) true 0 [], [])]
  | _, _ => []
def cNat (cl : Bool) (l : List IV) : Bool := okW l && decide (l.length ≤ 1000000)
def gNat (l : List IV) : List IV := u8s (nb (valL (toW l)))
def cIns (o : List IV) (i : Int) (l2 : List IV) : Bool := @decide (i = 0 ∧ l2 = [.int .u8 0] ∧ o.length ≤ 100000000 ∧ okB o = true) (Classical.propDecidable _)
def gIns (o : List IV) : List IV := .int .u8 0 :: o
theorem cIns_of {b : List UInt8} (h : b.length ≤ 100000000) : cIns (u8s b) 0 [.int .u8 0] = true := @decide_eq_true _ (Classical.propDecidable _) ⟨rfl, rfl, by rw [u8s_len]; exact h, okB_u8s b⟩
theorem nat_known (hI : Known Try.prog hint 41 (insP cIns gIns)) : Known Try.prog hint 24 (natP cNat gNat) := by
  refine known_frz1 fits fun us T v T1 h => ?_
  unfold natP at h
  split at h
  case h_2 => cases h
  rename_i nl cl l
  simp only [List.mem_cons, List.not_mem_nil, or_false, Prod.mk.injEq, Bool.true_eq, cNat, Bool.and_eq_true, decide_eq_true_eq] at h
  obtain ⟨⟨h1, h2⟩, rfl, rfl⟩ := h
  obtain ⟨e, ho⟩ := okW_eq h1
  generalize toW l = ls at *
  subst e
  rw [w64s_len] at h2
  unfold gNat
  rw [toW_w64s]
  have q := nat_runs (sp := tab [(41, insP cIns gIns)]) ho h2 (nl := nl) (cl := cl) (8 * ls.length) (Nat.le_refl _)
  have hlen : (mb (valL ls)).length ≤ 8 * ls.length := mb_len (valL_lt ho)
  rw [Nat.div_eq_of_lt (by rw [← pow64]; exact valL_lt ho), mb_zero] at q
  have ht := nat_call (atB [.fsl nl cl 1 (w64s ls), .ptr 0 0, .osl 1 0, .int .i64 (((8 * ls.length : Nat) : Int) - 1)] [nd0, .row 0 false 1 []]) cIns gIns nl cl (w64s ls) (u8s (mb (valL ls)))
  rw [w64s_len, u8s_len, wmul8 (by omega), wsub1 (by omega)] at ht
  have hnb := nb_mb (valL ls)
  generalize valL ls = V at *
  have hls : LoopsOK Try.prog hint (acall Try.prog hint (ovrOf (tab [(41, insP cIns gIns)]))) _ := ltab_run (by kernel_rfl) q ltab_nil (by kernel_rfl)
  have htab : ∀ f F, tab [(41, insP cIns gIns)] f = some F → Known Try.prog hint f F := tab_cons hI tab_nil
  have hins : gIns (u8s (mb V)) = u8s (0 :: mb V) := rfl
  refine ⟨rfl, rfl, noGd_of rfl, _, _, htab, hls, 30, .agg [.int .i64 2, .osl 0 0, .fsl (some true) true 0 []], [.row 0 false 1 (u8s (nb V))], _, [0], ht.trans (bif_step at_t ?_), rfl, Wk.refl _⟩
  cases hm : mb V with
  | nil =>
    rw [hm] at hnb
    rw [hm] at hins
    rw [hnb, if_pos (.inl rfl)]
    refine bif_stepF rfl (bif_step (cIns_of (b := []) (by simp)) ?_)
    rw [hins]
  | cons b r =>
    rw [hm] at hnb hins hlen
    rw [List.length_cons] at hlen
    have hb := b.toNat_lt
    have hx : nthD (List.drop 0 (nthD (u8s (b :: r)) 0).cells) 0 = .int .u8 (b.toNat : Int) := Eq.trans rfl rfl
    rw [hx, intI']
    have hne : (((b :: r).length : Nat) : Int) ≠ 0 := by rw [List.length_cons]; omega
    refine bif_step (by rw [show ((((b :: r).length : Nat) : Int) == 0) = false from beq_eq_false_iff_ne.2 hne]; rfl) (bif_step (decide_eq_true (by rw [List.length_cons]; omega)) (bif_step (decide_eq_true (by rw [List.length_cons]; omega)) (bif_step isOf_int ?_)))
    by_cases h128 : 128 ≤ b.toNat
    · rw [hnb, if_pos (.inr h128)]
      refine bif_step (decide_eq_true (by omega)) (bif_step (cIns_of (by rw [List.length_cons]; omega)) ?_)
      rw [hins]
    · rw [hnb, if_neg (by simp only [List.headD_cons, List.cons_ne_nil, false_or]; omega)]
      exact bif_stepF (decide_eq_false (by omega)) rfl
end
end Go.Proofs.Ytolpgbgmldpneaa
