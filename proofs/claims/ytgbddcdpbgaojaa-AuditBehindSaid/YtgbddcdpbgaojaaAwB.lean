/- Numbers are read: what is proved of the given program. It bears no condition. -/
import Derived.Test.YtgbddcdpbgaojaaAwA
namespace Go.Proofs.Ytgbddcdpbgaojaa
open Go Go.Im
set_option linter.unusedVariables false
set_option linter.unusedSimpArgs false

noncomputable abbrev PCall := acall Try.prog hint (ovrOf (tab []))
/-- How many bytes fill up. -/
def fillN (n : Nat) : Nat := (4 - n % 4) % 4
theorem fillN_lt (n : Nat) : fillN n < 4 := Nat.mod_lt _ (by decide)
def smallB (n : Int) : Bool := decide (0 ≤ n ∧ n ≤ 100000)
theorem smallB_t {n : Nat} (h : n ≤ 100000) : smallB (n : Int) = true := by simp only [smallB, decide_eq_true_eq]; omega
def padG (n : Int) : Int := ((n.toNat + fillN n.toNat : Nat) : Int)
theorem padG_nat (n : Nat) : padG (n : Int) = ((n + fillN n : Nat) : Int) := rfl
theorem pad_known : Known Try.prog hint 52 (intP smallB padG) := by
  refine known_of fits (spec := tab []) tab_nil loops_none ?_
  (intro xs T v T1 h; unfold intP smallB padG at h; split at h; rotate_left; · cases h)
  rename_i n
  (simp only [List.mem_cons, List.not_mem_nil, or_false, Prod.mk.injEq, Bool.true_eq, Bool.and_eq_true, decide_eq_true_eq] at h; obtain ⟨h1, rfl, rfl⟩ := h)
  refine ⟨30, (pad_all _).trans ?_⟩
  congr 3
  simp only [wrap_i64, fillN]
  rw [Int.tdiv_eq_ediv_of_nonneg (by omega)]
  omega
/-- A number of bytes. -/
def getFC (xs : List IV) : Bool := decide (xs.length ≤ 8) && okB xs
def getFG (xs : List IV) : Int := ((numL (toBytes xs) : Nat) : Int)
theorem get_run {nl : Option Bool} {cl : Bool} {xs : List UInt8} (hx : xs.length ≤ 8) : ∀ (j i : Nat), i + j = xs.length →
    Runs Try.prog hint PCall 0 (hint.kp 42) (loopAt Try.prog 42 58) (Sx 42 [.int .u64 ((numL (xs.take i) : Nat) : Int), .fsl nl cl 1 (u8s xs), .int .i64 (xs.length : Int), .int .i64 (i : Int)] []) (.exit 0)
      (Sx 42 [.int .u64 ((numL xs : Nat) : Int), .fsl nl cl 1 (u8s xs), .int .i64 (xs.length : Int), .int .i64 (xs.length : Int)] [])
  | 0, i, h => by
    refine Runs.last (n := 30) (ls := fun _ _ => none) loops_none inner0 (by simp) ((get_in ..).trans ?_)
    rw [bif_f (by omega), show i = xs.length by omega, List.take_length]
  | j + 1, i, h => by
    have hi : i < xs.length := by omega
    refine Runs.step (n := 30) (ls := fun _ _ => none) loops_none inner0 ((get_in ..).trans ?_) (get_run hx j (i + 1) (by omega))
    have w : IntKind.i64.wrap ((i : Int) + 1) = ((i + 1 : Nat) : Int) := by rw [wrap_i64]; omega
    simp only [u8s_len, Int.toNat_natCast, w]
    rw [u8s_nth hi, cell_int, isOf_int, intOf_int, cond_true, bif_t (show (i : Int) < xs.length by omega)]
    rw [bif_t (by (first | omega | (simp only [true_and, and_true]; omega) | ((simp only [List.length_append, List.length_cons, List.length_nil, List.length_replicate, List.length_map, u8s_len, be_len, roomB_nat, roomB_val, maxLen_val, Nat.mul_one] at *); omega) | (simp only [true_and, and_true]; (simp only [List.length_append, List.length_cons, List.length_nil, List.length_replicate, List.length_map, u8s_len, be_len, roomB_nat, roomB_val, maxLen_val, Nat.mul_one] at *); omega)))]
    have hb := (xs.getD i 0).toNat_lt
    have hp : numL (xs.take i) < 256 ^ 7 := Nat.lt_of_lt_of_le (numL_lt _) (Nat.pow_le_pow_right (by decide) (by simp; omega))
    have e256 : (256 : Nat) ^ 7 = 72057594037927936 := by decide
    rw [e256] at hp
    have w1 : IntKind.u64.wrap (((numL (xs.take i) : Nat) : Int) * 2 ^ 8) = ((numL (xs.take i) * 2 ^ 8 : Nat) : Int) := by
      rw [wrap_u64, show (2 : Int) ^ 8 = 256 from rfl, show (2 : Nat) ^ 8 = 256 from rfl]; omega
    have w2 : IntKind.u64.wrap ((xs.getD i 0).toNat : Int) = ((xs.getD i 0).toNat : Int) := wrap_u64_id (by omega) (by omega)
    rw [w1, w2, or_u64 (k := 8) (by omega) (by omega)]
    have e : xs.take (i + 1) = xs.take i ++ [xs.getD i 0] := by
      rw [List.take_succ_eq_append_getElem hi, List.getD_eq_getElem?_getD, List.getElem?_eq_getElem hi]; rfl
    rw [e, numL_snoc]
theorem get_known : Known Try.prog hint 42 (getP getFC getFG) := by
  refine known_of fits (spec := tab []) tab_nil (ls := ltab [(42, 58, LF 42 0 (getL (fun n xs len i => decide (xs.length ≤ 8 ∧ len = xs.length ∧ n = 0 ∧ i = 0) && okB xs) getFG))]) (ltab_cons (by kernel_rfl) (loopF_ok ?_) ltab_nil) ?_
  · (intro vs bx e vs' bx' h; unfold getL getFG at h; split at h; rotate_left; · cases h)
    rename_i n nl cl xs len i
    (simp only [List.mem_cons, List.not_mem_nil, or_false, Prod.mk.injEq, Bool.true_eq, Bool.and_eq_true, decide_eq_true_eq] at h; obtain ⟨h1, rfl, rfl, rfl⟩ := h)
    obtain ⟨⟨h1, rfl, rfl, rfl⟩, h2⟩ := h1
    have e := okB_eq h2
    generalize toBytes xs = bs at e
    subst e
    rw [u8s_len] at h1 ⊢
    exact get_run (nl := nl) (cl := cl) h1 bs.length 0 (by omega)
  (intro xs T v T1 h; unfold getP getFC at h; split at h; rotate_left; · cases h)
  rename_i nl cl xs
  (simp only [List.mem_cons, List.not_mem_nil, or_false, Prod.mk.injEq, Bool.true_eq, Bool.and_eq_true, decide_eq_true_eq] at h; obtain ⟨h1, rfl, rfl⟩ := h)
  refine ⟨30, (get_all nl cl 1 xs _ _).trans ?_⟩
  have e : (decide (xs.length ≤ 8 ∧ ((xs.length : Nat) : Int) = xs.length ∧ (0 : Int) = 0 ∧ (0 : Int) = 0) && okB xs) = true := by rw [h1.2]; simp [h1.1]
  exact (congrArg (fun c => cond c _ _) e)
end Go.Proofs.Ytgbddcdpbgaojaa
