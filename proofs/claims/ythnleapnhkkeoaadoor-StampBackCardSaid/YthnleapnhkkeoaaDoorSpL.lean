/- What the document's Parse answers: what is proved of the given program. It bears no condition. -/
import Derived.Test.YthnleapnhkkeoaaDoorSpK
namespace Go.Proofs.YthnleapnhkkeoaaDoor
open Go Go.Im
set_option linter.unusedVariables false
set_option linter.unusedSimpArgs false
noncomputable section

abbrev rqTab : FuncId → Option SpecF := tab [(19, printF)]
theorem rqTab_ok : ∀ f F, rqTab f = some F → Known Tryd.prog hint f F := tab_cons rprint_known tab_nil
/-- The first digits, ten at most. -/
def isD (s : List UInt8) (i : Nat) : Bool := decide (i < s.length ∧ i < 10 ∧ 48 ≤ (s.getD i 0).toNat ∧ (s.getD i 0).toNat ≤ 57)
def sc (s : List UInt8) : Nat → Nat → Nat → Nat × Nat
  | 0, i, x => (x, i)
  | k + 1, i, x => bif isD s i then sc s k (i + 1) (10 * x + dgt s i) else (x, i)
theorem sc_lt {s : List UInt8} : ∀ k i x, i + k ≤ 11 → x < 10 ^ i → (sc s k i x).1 < 10 ^ 11
  | 0, i, x, h, hx => by
    have : 10 ^ i ≤ 10 ^ 11 := Nat.pow_le_pow_right (by decide) (by omega)
    show x < _; omega
  | k + 1, i, x, h, hx => by
    unfold sc
    cases hd : isD s i
    · have : 10 ^ i ≤ 10 ^ 11 := Nat.pow_le_pow_right (by decide) (by omega)
      show x < _; omega
    · refine sc_lt k (i + 1) _ (by omega) ?_
      simp only [isD, decide_eq_true_eq] at hd
      have : dgt s i ≤ 9 := by unfold dgt; omega
      rw [Nat.pow_succ]; omega
theorem sc_runs {s : List UInt8} (hl : s.length ≤ 1000000) : ∀ k i x, i + k = 11 → x < 10 ^ i →
    Runs Tryd.prog hint (acall Tryd.prog hint (ovrOf rqTab)) 0 (hint.kp 17) (loopAt Tryd.prog 17 28) (Sx 17 (rqV s (x : Nat) (i : Nat)) []) (.exit 0) (Sx 17 (rqV s ((sc s k i x).1 : Nat) ((sc s k i x).2 : Nat)) [])
  | k, i, x, h, hx => by
    have hr := rq_r1 rqTab s (x : Nat) (i : Nat)
    rw [Int.toNat_natCast] at hr
    have last : isD s i = false → Rd rqTab 17 28 (Sx 17 (rqV s (x : Nat) (i : Nat)) []) = some (.exit 0, Sx 17 (rqV s (x : Nat) (i : Nat)) []) := by
      intro hd
      simp only [isD, decide_eq_false_iff_not] at hd
      refine hr.trans ?_
      by_cases c1 : i < s.length ∧ i < 10
      case neg =>
        refine bif_stepF ?_ rfl
        by_cases c2 : (i : Int) < (s.length : Int)
        · rw [decide_eq_true c2, decide_eq_false (show ¬ (i : Int) < 10 by omega)]; rfl
        · rw [decide_eq_false c2]; rfl
      refine bif_step (by rw [decide_eq_true (show (i : Int) < (s.length : Int) by omega), decide_eq_true (show (i : Int) < 10 by omega)]; rfl) (bif_step (decide_eq_true (by omega)) ?_)
      by_cases c3 : 48 ≤ (s.getD i 0).toNat
      case neg => exact bif_stepF (by rw [decide_eq_false (show ¬ ((s.getD i 0).toNat : Int) ≥ 48 by omega)]; rfl) rfl
      refine bif_step (by rw [decide_eq_true (show ((s.getD i 0).toNat : Int) ≥ 48 by omega)]; rfl) (bif_step (decide_eq_true (by omega)) (bif_stepF ?_ rfl))
      rw [cond_true, decide_eq_false_iff_not]
      intro c4
      exact hd ⟨c1.1, c1.2, c3, by omega⟩
    cases k with
    | zero =>
      exact Runs.last (n := 30) (ls := fun _ _ => none) loops_none inner0 (by simp) (last (by simp only [isD, decide_eq_false_iff_not]; omega))
    | succ k =>
      unfold sc
      cases hd : isD s i
      · exact Runs.last (n := 30) (ls := fun _ _ => none) loops_none inner0 (by simp) (last hd)
      · have hd' := hd
        simp only [isD, decide_eq_true_eq] at hd'
        obtain ⟨c1, c2, c3, c4⟩ := hd'
        have hp : 10 ^ i ≤ 10 ^ 10 := Nat.pow_le_pow_right (by decide) (by omega)
        have d9 : dgt s i ≤ 9 := by unfold dgt; omega
        have ed : (s.getD i 0).toNat = dgt s i + 48 := by unfold dgt; omega
        refine Runs.step (n := 30) (ls := fun _ _ => none) loops_none inner0 (hr.trans ?_) (sc_runs hl k (i + 1) (10 * x + dgt s i) (by omega) (by rw [Nat.pow_succ]; omega))
        refine bif_step (by rw [decide_eq_true (show (i : Int) < (s.length : Int) by omega), decide_eq_true (show (i : Int) < 10 by omega)]; rfl) (bif_step (decide_eq_true (by omega)) ?_)
        refine bif_step (by rw [decide_eq_true (show ((s.getD i 0).toNat : Int) ≥ 48 by omega)]; rfl) (bif_step (decide_eq_true (by omega)) (bif_step ?_ (bif_step (decide_eq_true (by omega)) ?_)))
        · rw [cond_true, decide_eq_true_eq]; omega
        · rw [ed, show (10 : Int) * (x : Int) = ((10 * x : Nat) : Int) by omega, wu_nat (by omega), wu_nat (by omega), show ((10 * x : Nat) : Int) + ((dgt s i + 48 : Nat) : Int) = ((10 * x + dgt s i + 48 : Nat) : Int) by omega, wu_nat (by omega),
            show ((10 * x + dgt s i + 48 : Nat) : Int) - 48 = ((10 * x + dgt s i : Nat) : Int) by omega, wu_nat (by omega), wadd1 (by omega)]

/-- The binary digits, one by one. -/
def leL (a b : List UInt8) : Bool := Op.bytesLess a b || a == b
def bsN (s : List UInt8) : Nat → Nat → Nat
  | 0, t => t
  | k + 1, t => bsN s k (if leL (printL (t + 2 ^ k)) s = true then t + 2 ^ k else t)
theorem bs_lt {s : List UInt8} : ∀ k t N, t + 2 ^ k ≤ N → bsN s k t < N
  | 0, t, N, h => by unfold bsN; omega
  | k + 1, t, N, h => by
    unfold bsN
    have hp : 2 ^ (k + 1) = 2 ^ k + 2 ^ k := by rw [Nat.pow_succ]; omega
    have h0 := Nat.two_pow_pos k
    split
    · exact bs_lt k _ N (by omega)
    · exact bs_lt k _ N (by omega)
theorem bs_runs {s low : List UInt8} {x i : Int} : ∀ k t, k ≤ 32 → t + 2 ^ k ≤ 18446744073709551616 →
    Runs Tryd.prog hint (acall Tryd.prog hint (ovrOf rqTab)) 0 (hint.kp 17) (loopAt Tryd.prog 17 2042) (Sx 17 (rqW s x i (t : Nat) low ((k : Nat) - 1 : Int)) []) (.exit 2) (Sx 17 (rqW s x i ((bsN s k t : Nat) : Int) low (-1)) [])
  | 0, t, hk, ht => by
    refine Runs.last (n := 30) (ls := fun _ _ => none) loops_none inner0 (by simp) ((rq_r2 s low x i (t : Nat) (((0 : Nat) : Int) - 1)).trans (bif_stepF (decide_eq_false (by omega)) rfl))
  | k + 1, t, hk, ht => by
    have hr := rq_r2 s low x i (t : Nat) (((k + 1 : Nat) : Int) - 1)
    have hp : 2 ^ (k + 1) = 2 ^ k + 2 ^ k := by rw [Nat.pow_succ]; omega
    have hp0 := Nat.two_pow_pos k
    have ek : ((k + 1 : Nat) : Int) - 1 = (k : Nat) := by omega
    rw [ek, wu_nat (by omega), Int.toNat_natCast, Nat.min_eq_left (by omega)] at hr
    have e2 : (1 : Int) * (2 : Int) ^ k = ((2 ^ k : Nat) : Int) := by rw [Int.one_mul]; simp
    rw [e2, wu_nat (by omega), show ((t : Nat) : Int) + ((2 ^ k : Nat) : Int) = ((t + 2 ^ k : Nat) : Int) by omega, wu_nat (by omega), Int.toNat_natCast] at hr
    have e3 : IntKind.i64.wrap (((k : Nat) : Int) - 1) = ((k : Nat) : Int) - 1 := by rw [wrap_i64]; omega
    rw [e3] at hr
    rw [ek]
    unfold bsN
    cases hc : leL (printL (t + 2 ^ k)) s
    · rw [if_neg (by simp)]
      exact Runs.step (n := 30) (ls := fun _ _ => none) loops_none inner0 (hr.trans (bif_step (decide_eq_true (by omega)) (bif_step (decide_eq_true (by omega)) (bif_step (decide_eq_true (by omega)) (bif_stepF hc rfl))))) (bs_runs k t (by omega) (by omega))
    · rw [if_pos rfl]
      exact Runs.step (n := 30) (ls := fun _ _ => none) loops_none inner0 (hr.trans (bif_step (decide_eq_true (by omega)) (bif_step (decide_eq_true (by omega)) (bif_step (decide_eq_true (by omega)) (bif_step hc rfl))))) (bs_runs k (t + 2 ^ k) (by omega) (by omega))

def scS (s : List UInt8) : Nat := (sc s 11 0 0).1
def rfG (s : List UInt8) : Bool := decide (scS s ≤ 4294967295 ∧ s.length ≤ 21 ∧ (printL (scS s * 4294967296)).length = s.length ∧ printL (bsN s 32 (scS s * 4294967296)) = s)
def rfO (s : List UInt8) : Option Nat := bif rfG s then some (bsN s 32 (scS s * 4294967296)) else none
theorem oneF_mem {vs0 vs vs1 vs' : List IV} {bx0 bx bx1 bx' : List Blk} {e0 e : Ex} (h : (true, e, vs', bx') ∈ oneF vs0 bx0 e0 vs1 bx1 vs bx) : vs = vs0 ∧ bx = bx0 ∧ e = e0 ∧ vs' = vs1 ∧ bx' = bx1 := by
  simp only [oneF, List.mem_cons, List.not_mem_nil, or_false, Prod.mk.injEq, Bool.true_eq, decide_eq_true_eq] at h
  exact ⟨h.1.1, h.1.2, h.2.1, h.2.2.1, h.2.2.2⟩
theorem rparse_known : Known Tryd.prog hint 17 (parseF rfO) := by
  refine known_alt fits fun xs T v T1 h => ?_
  unfold parseF at h
  split at h
  case h_2 => cases h
  rename_i s
  simp only [List.mem_cons, List.not_mem_nil, or_false, Prod.mk.injEq, Bool.true_eq, decide_eq_true_eq] at h
  obtain ⟨hl, rfl, rfl⟩ := h
  refine ⟨[[.str s]], by simp, Splits.self _, fun ys hy => ?_⟩
  rw [List.mem_singleton] at hy
  subst hy
  have hs := sc_lt (s := s) 11 0 0 (by omega) (by simp)
  have bad : rfG s = false → some (IV.tup [IV.int .u64 0, IV.int .i64 40], ([] : List Blk)) = some (IV.tup [IV.int .u64 (oT (rfO s)), IV.int .i64 (oE (rfO s))], []) := by
    intro h
    unfold rfO
    rw [h]; rfl
  have l1 : ∀ e : Int, ((e = (scS s : Nat)) → LoopOK Tryd.prog hint (acall Tryd.prog hint (ovrOf rqTab)) (itOf Tryd.prog hint (acall Tryd.prog hint (ovrOf rqTab))) (hint.kp 17) (itemAt Tryd.prog 17 28) (loopF Tryd.prog hint 17 0 (oneF (rqV s 0 0) [] (.exit 0) (rqV s e ((sc s 11 0 0).2 : Nat)) []))) := by
    rintro e rfl
    refine loopF_ok fun vs bx e vs' bx' h => ?_
    obtain ⟨rfl, rfl, rfl, rfl, rfl⟩ := oneF_mem h
    exact sc_runs hl 11 0 0 (by omega) (by simp)
  have l1 := l1 _ rfl
  by_cases c1 : scS s ≤ 4294967295 ∧ s.length ≤ 21
  case neg =>
    refine ⟨noGd_of rfl, rqTab, _, rqTab_ok, ltab_cons (by kernel_rfl) l1 (ltab_cons (F := noL) (q := 2042) (by kernel_rfl) (fun p s e s' h => by cases h) ltab_nil), 30, _, Wk.refl _, (rq_call0 s (scS s : Nat) ((sc s 11 0 0).2 : Nat) 0).trans (bif_step sameS_t (bif_step ?_ (bad ?_)))⟩
    · by_cases h : ((scS s : Nat) : Int) > 4294967295
      · rw [decide_eq_true h]; rfl
      · rw [decide_eq_true (show (s.length : Int) > 21 by omega)]; simp
    · unfold rfG
      rw [decide_eq_false (fun h => c1 ⟨h.1, h.2.1⟩)]
  have ew : IntKind.u64.wrap (((scS s : Nat) : Int) * 4294967296) = ((scS s * 4294967296 : Nat) : Int) := by
    rw [show ((scS s : Nat) : Int) * 4294967296 = ((scS s * 4294967296 : Nat) : Int) by omega, wu_nat (by omega)]
  have l2 : LoopOK Tryd.prog hint (acall Tryd.prog hint (ovrOf rqTab)) (itOf Tryd.prog hint (acall Tryd.prog hint (ovrOf rqTab))) (hint.kp 17) (itemAt Tryd.prog 17 2042) (loopF Tryd.prog hint 17 0 (oneF (rqW s (scS s : Nat) ((sc s 11 0 0).2 : Nat) (IntKind.u64.wrap (((scS s : Nat) : Int) * (4294967296 : Int))) (printL (IntKind.u64.wrap (((scS s : Nat) : Int) * (4294967296 : Int))).toNat) 31) [] (.exit 2)
      (rqW s (scS s : Nat) ((sc s 11 0 0).2 : Nat) ((bsN s 32 (scS s * 4294967296) : Nat) : Int) (printL (IntKind.u64.wrap (((scS s : Nat) : Int) * (4294967296 : Int))).toNat) (-1)) [])) := by
    rw [ew]
    refine loopF_ok fun vs bx e vs' bx' h => ?_
    obtain ⟨rfl, rfl, rfl, rfl, rfl⟩ := oneF_mem h
    exact bs_runs 32 (scS s * 4294967296) (by omega) (by omega)
  have hb : bsN s 32 (scS s * 4294967296) < 18446744073709551616 := bs_lt 32 _ _ (by omega)
  refine ⟨noGd_of rfl, rqTab, _, rqTab_ok, ltab_cons (by kernel_rfl) l1 (ltab_cons (by kernel_rfl) l2 ltab_nil), 30, _, Wk.refl _, (rq_call s (scS s : Nat) ((sc s 11 0 0).2 : Nat) ((bsN s 32 (scS s * 4294967296) : Nat) : Int)).trans (bif_step sameS_t ?_)⟩
  refine bif_stepF (by rw [decide_eq_false (by omega), decide_eq_false (by omega)]; rfl) ?_
  rw [ew]
  refine bif_step (decide_eq_true (by omega)) ?_
  rw [Int.toNat_natCast]
  by_cases c2 : (printL (scS s * 4294967296)).length = s.length
  case neg =>
    refine bif_step (by rw [bne_iff_ne]; omega) (bad ?_)
    unfold rfG
    rw [decide_eq_false (fun h => c2 h.2.2.1)]
  refine bif_stepF (by rw [c2]; simp) (bif_step sameS_t (bif_step (decide_eq_true (by omega)) ?_))
  rw [Int.toNat_natCast]
  by_cases c3 : printL (bsN s 32 (scS s * 4294967296)) = s
  case neg =>
    refine bif_step (by simpa using c3) (bad ?_)
    unfold rfG
    rw [decide_eq_false (fun h => c3 h.2.2.2)]
  · refine bif_stepF (by simpa using c3) ?_
    unfold rfO rfG
    rw [decide_eq_true ⟨c1.1, c1.2, c2, c3⟩]; rfl
end
end Go.Proofs.YthnleapnhkkeoaaDoor
