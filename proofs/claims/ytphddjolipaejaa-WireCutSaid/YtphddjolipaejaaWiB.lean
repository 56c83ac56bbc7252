/- Numbers are put in bytes: what is proved of the given program. It bears no condition. -/
import Derived.Test.YtphddjolipaejaaWiA
namespace Go.Proofs.Ytphddjolipaejaa
open Go Go.Im
set_option linter.unusedVariables false
set_option linter.unusedSimpArgs false

noncomputable abbrev PCall := acall Try.prog hint (ovrOf (tab []))
/-- What leads a round's tests. -/
theorem app1 {l : List IV} {x : IV} (h : l.length ≤ 100000) : ((l.length + [x].length) * 1 ≤ roomB ∧ l.length + [x].length ≤ maxLen) := by
  simp only [List.length_cons, List.length_nil, roomB_nat, maxLen_val]; omega
theorem app1' {l : List IV} (h : l.length ≤ 100000) : ((l.length + 1) * 1 ≤ roomB ∧ l.length + 1 ≤ maxLen) := by
  simp only [roomB_nat, maxLen_val]; omega
theorem wi8 {k : Nat} (h : k ≤ 8) : IntKind.i64.wrap ((8 : Int) * (k : Int)) = ((8 * k : Nat) : Int) := by rw [wrap_i64]; omega
theorem wu8 {k : Nat} (h : k ≤ 8) : IntKind.u64.wrap (((8 * k : Nat)) : Int) = ((8 * k : Nat) : Int) := by rw [wrap_u64]; omega
theorem wim (k : Nat) (h : k ≤ 100000) : IntKind.i64.wrap ((k : Int) - 1) = (k : Int) - 1 := by rw [wrap_i64]; omega

theorem put_inner {n x len j : Int} {nl : Option Bool} {cl : Bool} {z : Nat} {xs : List IV} : ∀ (k : Nat) (l : List IV), k ≤ 8 → l.length + k ≤ 100000 →
    Runs Try.prog hint PCall 1 (hint.kp 18) (loopAt Try.prog 18 6758) (Sx 18 [.osl 0 1, .int .i64 n, .int .u64 x, .int .i64 ((k : Int) - 1), .fsl nl cl z xs, .int .i64 len, .int .i64 j] [.row 1 false 1 l]) (.exit 2)
      (Sx 18 [.osl 0 1, .int .i64 n, .int .u64 x, .int .i64 (-1), .fsl nl cl z xs, .int .i64 len, .int .i64 j] [.row 1 false 1 (l ++ u8s (be k x))])
  | 0, l, hk, hl => by
    refine Runs.last (n := 30) (ls := fun _ _ => none) loops_none inner0 (by simp) ((put_in ..).trans ?_)
    rw [bif_f (by simp)]
    simp [be, u8s]
  | k + 1, l, hk, hl => by
    have e : ((k + 1 : Nat) : Int) - 1 = (k : Int) := by omega
    rw [e]
    refine Runs.step (n := 30) (ls := fun _ _ => none) loops_none inner0 ((put_in ..).trans ?_) (?_ : Runs _ _ _ _ _ _ (Sx 18 [.osl 0 1, .int .i64 n, .int .u64 x, .int .i64 ((k : Int) - 1), .fsl nl cl z xs, .int .i64 len, .int .i64 j] [.row 1 false 1 (l ++ [.int .u8 ((byteAt x k).toNat : Int)])]) _ _)
    · rw [bif_t (by omega), wi8 (by omega), bif_t (by omega), shr_byte x k (by omega), bif_t (app1 (by omega)), wim k (by omega)]
    · have := put_inner (n := n) (x := x) (len := len) (j := j) (nl := nl) (cl := cl) (z := z) (xs := xs) k (l ++ [.int .u8 ((byteAt x k).toNat : Int)]) (by omega) (by simp; omega)
      simpa [be, u8s_cons] using this
theorem by_inner {x : Int} : ∀ (k : Nat) (l : List IV), k ≤ 8 → l.length + k ≤ 100000 →
    Runs Try.prog hint PCall 0 (hint.kp 22) (loopAt Try.prog 22 58) (Sx 22 [.int .u64 x, .osl 0 0, .int .i64 ((k : Int) - 1)] [.row 0 false 1 l]) (.exit 0)
      (Sx 22 [.int .u64 x, .osl 0 0, .int .i64 (-1)] [.row 0 false 1 (l ++ u8s (be k x))])
  | 0, l, hk, hl => by
    refine Runs.last (n := 30) (ls := fun _ _ => none) loops_none inner0 (by simp) ((by_in ..).trans ?_)
    rw [bif_f (by simp)]
    simp [be, u8s]
  | k + 1, l, hk, hl => by
    have e : ((k + 1 : Nat) : Int) - 1 = (k : Int) := by omega
    rw [e]
    refine Runs.step (n := 30) (ls := fun _ _ => none) loops_none inner0 ((by_in ..).trans ?_) (?_ : Runs _ _ _ _ _ _ (Sx 22 [.int .u64 x, .osl 0 0, .int .i64 ((k : Int) - 1)] [.row 0 false 1 (l ++ [.int .u8 ((byteAt x k).toNat : Int)])]) _ _)
    · rw [bif_t (by omega), wi8 (by omega), wu8 (by omega), bif_t (by omega), shr_byte x k (by omega), bif_t (app1 (by omega)), wim k (by omega)]
    · have := by_inner (x := x) k (l ++ [.int .u8 ((byteAt x k).toNat : Int)]) (by omega) (by simp; omega)
      simpa [be, u8s_cons] using this

/-- How many bytes fill up. -/
def fillN (n : Nat) : Nat := (4 - n % 4) % 4
theorem fillN_lt (n : Nat) : fillN n < 4 := Nat.mod_lt _ (by decide)
def dataL (xs : List IV) : List IV := u8s (be 4 (xs.length : Int)) ++ xs ++ List.replicate (fillN xs.length) (.int .u8 0)
theorem dataL_len (xs : List IV) : (dataL xs).length = 4 + xs.length + fillN xs.length := by simp [dataL, u8s_len, be_len, Nat.add_assoc]


abbrev putC (_x i : Int) (l : List IV) : Bool := decide (-1 ≤ i ∧ i < 8 ∧ l.length ≤ 99000)
abbrev putG (x i : Int) (l : List IV) : List IV := l ++ u8s (be (i + 1).toNat x)
def putFC (n : Int) (xs l : List IV) : Bool := decide (0 ≤ n ∧ n ≤ 8 ∧ 1 ≤ xs.length ∧ xs.length ≤ 4 ∧ l.length ≤ 90000) && isInts .u64 xs
def putFG (n : Int) (xs l : List IV) : List IV := l ++ u8s ((toInts xs).flatMap (be n.toNat))
abbrev putF : SpecF := putP putFC putFG
theorem put_lt : LoopsOK Try.prog hint PCall (ltab [(18, 6758, LF 18 1 (putL putC putG))]) := by
  refine ltab_cons (by kernel_rfl) (loopF_ok ?_) ltab_nil
  (intro vs bx e vs' bx' h; unfold putL at h; split at h; rotate_left; · cases h)
  rename_i n x i nl cl z xs len j l
  (simp only [List.mem_cons, List.not_mem_nil, or_false, Prod.mk.injEq, Bool.true_eq, Bool.and_eq_true, decide_eq_true_eq] at h; obtain ⟨h1, rfl, rfl, rfl⟩ := h)
  have := put_inner (n := n) (x := x) (len := len) (j := j) (nl := nl) (cl := cl) (z := z) (xs := xs) (i + 1).toNat l (by omega) (by omega)
  have e : (((i + 1).toNat : Nat) : Int) - 1 = i := by omega
  rw [e] at this
  exact this
theorem put_known : Known Try.prog hint 18 putF := by
  refine known_of fits (spec := tab []) tab_nil put_lt ?_
  (intro xs T v T1 h; unfold putF putP putFC putFG at h; split at h; rotate_left; · cases h)
  rename_i n nl cl xs l
  (simp only [List.mem_cons, List.not_mem_nil, or_false, Prod.mk.injEq, Bool.true_eq, Bool.and_eq_true, decide_eq_true_eq] at h; obtain ⟨h1, rfl, rfl⟩ := h)
  obtain ⟨h1, h2⟩ := h1
  have e := isInts_eq h2
  generalize toInts xs = zs at e
  subst e
  have w : IntKind.i64.wrap (n - 1) = n - 1 := by rw [wrap_i64]; omega
  have w2 : (n - 1 + 1).toNat = n.toNat := by congr 1; omega
  obtain ⟨k, rfl⟩ : ∃ k : Nat, n = k := ⟨n.toNat, by omega⟩
  simp only [List.length_map] at h1
  match zs, h1 with
  | [a], h1 =>
    refine ⟨30, (put1 ..).trans ?_⟩
    simp only [intOf_int, w, w2]
    rw [bif_t (by omega)]
    simp
  | [a, b], h1 =>
    refine ⟨30, (put2 ..).trans ?_⟩
    simp only [intOf_int, w, w2]
    rw [bif_t (by omega), bif_t (by (simp only [List.length_append, List.length_cons, List.length_nil, List.length_replicate, List.length_map, u8s_len, be_len, roomB_nat, roomB_val, maxLen_val, Nat.mul_one] at *); omega)]
    simp [u8s_app]
  | [a, b, c], h1 =>
    refine ⟨30, (put3 ..).trans ?_⟩
    simp only [intOf_int, w, w2]
    rw [bif_t (by omega), bif_t (by (simp only [List.length_append, List.length_cons, List.length_nil, List.length_replicate, List.length_map, u8s_len, be_len, roomB_nat, roomB_val, maxLen_val, Nat.mul_one] at *); omega), bif_t (by (simp only [List.length_append, List.length_cons, List.length_nil, List.length_replicate, List.length_map, u8s_len, be_len, roomB_nat, roomB_val, maxLen_val, Nat.mul_one] at *); omega)]
    simp [u8s_app]
  | [a, b, c, d], h1 =>
    refine ⟨30, (put4 ..).trans ?_⟩
    simp only [intOf_int, w, w2]
    rw [bif_t (by omega), bif_t (by (simp only [List.length_append, List.length_cons, List.length_nil, List.length_replicate, List.length_map, u8s_len, be_len, roomB_nat, roomB_val, maxLen_val, Nat.mul_one] at *); omega), bif_t (by (simp only [List.length_append, List.length_cons, List.length_nil, List.length_replicate, List.length_map, u8s_len, be_len, roomB_nat, roomB_val, maxLen_val, Nat.mul_one] at *); omega), bif_t (by (simp only [List.length_append, List.length_cons, List.length_nil, List.length_replicate, List.length_map, u8s_len, be_len, roomB_nat, roomB_val, maxLen_val, Nat.mul_one] at *); omega)]
    simp [u8s_app]
  | [], h1 => simp at h1
  | _ :: _ :: _ :: _ :: _ :: _, h1 => simp at h1

def byFC (_x n : Int) : Bool := decide (0 ≤ n ∧ n ≤ 8)
def byFG (x n : Int) : List IV := u8s (be n.toNat x)
abbrev byF : SpecF := byP byFC byFG
theorem by_known : Known Try.prog hint 22 byF := by
  refine known_of fits (spec := tab []) tab_nil (ls := ltab [(22, 58, LF 22 0 (byL putC putG))]) (ltab_cons (by kernel_rfl) (loopF_ok ?_) ltab_nil) ?_
  · (intro vs bx e vs' bx' h; unfold byL at h; split at h; rotate_left; · cases h)
    rename_i x i l
    (simp only [List.mem_cons, List.not_mem_nil, or_false, Prod.mk.injEq, Bool.true_eq, Bool.and_eq_true, decide_eq_true_eq] at h; obtain ⟨h1, rfl, rfl, rfl⟩ := h)
    have := by_inner (x := x) (i + 1).toNat l (by omega) (by omega)
    have e : (((i + 1).toNat : Nat) : Int) - 1 = i := by omega
    rw [e] at this
    exact this
  (intro xs T v T1 h; unfold byF byP byFC byFG at h; split at h; rotate_left; · cases h)
  rename_i x n
  (simp only [List.mem_cons, List.not_mem_nil, or_false, Prod.mk.injEq, Bool.true_eq, Bool.and_eq_true, decide_eq_true_eq] at h; obtain ⟨h1, rfl, rfl⟩ := h)
  refine ⟨30, (by_all _ _ putC putG).trans ?_⟩
  have w : IntKind.i64.wrap (n - 1) = n - 1 := by rw [wrap_i64]; omega
  have w2 : (n - 1 + 1).toNat = n.toNat := by congr 1; omega
  simp only [w, w2]
  rw [bif_t (by (simp only [List.length_append, List.length_cons, List.length_nil, List.length_replicate, List.length_map, u8s_len, be_len, roomB_nat, roomB_val, maxLen_val, Nat.mul_one] at *); omega)]
  simp

def smallB (n : Int) : Bool := decide (0 ≤ n ∧ n ≤ 100000)
theorem smallB_t {n : Nat} (h : n ≤ 100000) : smallB (n : Int) = true := by simp only [smallB, decide_eq_true_eq]; omega
def padG (n : Int) : Int := ((n.toNat + fillN n.toNat : Nat) : Int)
def fillG (n : Int) : Int := ((fillN n.toNat : Nat) : Int)
theorem padG_nat (n : Nat) : padG (n : Int) = ((n + fillN n : Nat) : Int) := rfl
theorem fillG_nat (n : Nat) : fillG (n : Int) = ((fillN n : Nat) : Int) := rfl
theorem pad_known : Known Try.prog hint 29 (intP smallB padG) := by
  refine known_of fits (spec := tab []) tab_nil loops_none ?_
  (intro xs T v T1 h; unfold intP smallB padG at h; split at h; rotate_left; · cases h)
  rename_i n
  (simp only [List.mem_cons, List.not_mem_nil, or_false, Prod.mk.injEq, Bool.true_eq, Bool.and_eq_true, decide_eq_true_eq] at h; obtain ⟨h1, rfl, rfl⟩ := h)
  refine ⟨30, (pad_all _).trans ?_⟩
  congr 3
  simp only [wrap_i64, fillN]
  rw [Int.tdiv_eq_ediv_of_nonneg (by omega)]
  omega
theorem fill_run {n : Nat} (hn : n ≤ 100000) : ∀ (j k : Nat), k + j = fillN n → Runs Try.prog hint PCall 0 (hint.kp 30) (loopAt Try.prog 30 28) (Sx 30 [.int .i64 (n : Int), .int .i64 (k : Int)] []) (.exit 0)
      (Sx 30 [.int .i64 (n : Int), .int .i64 ((fillN n : Nat) : Int)] [])
  | 0, k, h => by
    refine Runs.last (n := 30) (ls := fun _ _ => none) loops_none inner0 (by simp) ((fill_in ..).trans ?_)
    have e : ((IntKind.i64.wrap ((n : Int) + (k : Int))).tmod 4 != 0) = false := by
      have : fillN n < 4 := fillN_lt n
      rw [wrap_i64, Int.tmod_eq_emod_of_nonneg (by omega), bne_eq_false_iff_eq]
      unfold fillN at h
      omega
    rw [e, cond_false, show k = fillN n by omega]
  | j + 1, k, h => by
    have hk := fillN_lt n
    refine Runs.step (n := 30) (ls := fun _ _ => none) loops_none inner0 ((fill_in ..).trans ?_) (fill_run hn j (k + 1) (by omega))
    have e : ((IntKind.i64.wrap ((n : Int) + (k : Int))).tmod 4 != 0) = true := by
      rw [wrap_i64, Int.tmod_eq_emod_of_nonneg (by omega), bne_iff_ne]
      unfold fillN at h hk
      omega
    have w : IntKind.i64.wrap ((k : Int) + 1) = ((k + 1 : Nat) : Int) := by rw [wrap_i64]; omega
    rw [e, cond_true, w]
theorem fill_known : Known Try.prog hint 30 (intP smallB fillG) := by
  refine known_of fits (spec := tab []) tab_nil (ls := ltab [(30, 28, LF 30 0 (fillL (fun n k => decide (0 ≤ n ∧ n ≤ 100000 ∧ k = 0)) fillG))]) (ltab_cons (by kernel_rfl) (loopF_ok ?_) ltab_nil) ?_
  · (intro vs bx e vs' bx' h; unfold fillL fillG at h; split at h; rotate_left; · cases h)
    rename_i n k
    (simp only [List.mem_cons, List.not_mem_nil, or_false, Prod.mk.injEq, Bool.true_eq, Bool.and_eq_true, decide_eq_true_eq] at h; obtain ⟨h1, rfl, rfl, rfl⟩ := h)
    obtain ⟨h1, h2, rfl⟩ := h1
    have := fill_run (n := n.toNat) (by omega) (fillN n.toNat) 0 (by omega)
    have e : ((n.toNat : Nat) : Int) = n := by omega
    rw [e] at this
    exact this
  (intro xs T v T1 h; unfold intP smallB at h; split at h; rotate_left; · cases h)
  rename_i n
  (simp only [List.mem_cons, List.not_mem_nil, or_false, Prod.mk.injEq, Bool.true_eq, Bool.and_eq_true, decide_eq_true_eq] at h; obtain ⟨h1, rfl, rfl⟩ := h)
  exact ⟨30, (fill_all _ _ _).trans (by rw [bif_t (by omega)])⟩

def dataFC (z : Nat) (xs l : List IV) : Bool := decide ((z = 1 ∨ xs.length = 0) ∧ xs.length ≤ 20000 ∧ l.length ≤ 60000)
def dataFG (xs l : List IV) : List IV := l ++ dataL xs
theorem data_known : Known Try.prog hint 21 (dataP dataFC dataFG) := by
  refine known_of fits (spec := tab [(29, intP smallB padG), (18, putF)]) (tab_cons pad_known (tab_cons put_known tab_nil)) loops_none ?_
  (intro xs T v T1 h; unfold dataP dataFC dataFG at h; split at h; rotate_left; · cases h)
  rename_i nl cl z xs l
  (simp only [List.mem_cons, List.not_mem_nil, or_false, Prod.mk.injEq, Bool.true_eq, Bool.and_eq_true, decide_eq_true_eq] at h; obtain ⟨h1, rfl, rfl⟩ := h)
  have hf := fillN_lt xs.length
  refine ⟨30, (data_all l xs nl cl z _ _ _ _).trans ?_⟩
  have w1 : IntKind.u64.wrap (xs.length : Int) = xs.length := wrap_u64_id (by omega) (by omega)
  have e1 : putFG 4 [IV.int .u64 (xs.length : Int)] l = l ++ u8s (be 4 (xs.length : Int)) := by simp [putFG, toInts, intOf]
  have e3 : putFC 4 [IV.int .u64 (xs.length : Int)] l = true := by
    have hi : isInts .u64 [IV.int .u64 (xs.length : Int)] = true := rfl
    simp only [putFC, hi, Bool.and_true, decide_eq_true_eq]
    (simp only [List.length_append, List.length_cons, List.length_nil, List.length_replicate, List.length_map, u8s_len, be_len, roomB_nat, roomB_val, maxLen_val, Nat.mul_one] at *)
    omega
  have w3 : IntKind.i64.wrap (((xs.length + fillN xs.length : Nat) : Int) - (xs.length : Int)) = ((fillN xs.length : Nat) : Int) := by rw [wrap_i64]; omega
  have e2 : (ofVal (Value.int IntKind.u8 (0 : Int))) = .int .u8 0 := rfl
  simp only [w1, e1, e2, e3, padG_nat, w3, smallB_t (show xs.length ≤ 100000 by omega), cond_true]
  rw [bif_t (by omega), bif_t (by (simp only [List.length_append, List.length_cons, List.length_nil, List.length_replicate, List.length_map, u8s_len, be_len, roomB_nat, roomB_val, maxLen_val, Nat.mul_one] at *); omega), bif_t (by (simp only [List.length_append, List.length_cons, List.length_nil, List.length_replicate, List.length_map, u8s_len, be_len, roomB_nat, roomB_val, maxLen_val, Nat.mul_one] at *); omega), bif_t (by (simp only [List.length_append, List.length_cons, List.length_nil, List.length_replicate, List.length_map, u8s_len, be_len, roomB_nat, roomB_val, maxLen_val, Nat.mul_one] at *); omega)]
  simp [dataL]

def rdataFC (z : Nat) (xs : List IV) : Bool := decide ((z = 1 ∨ xs.length = 0) ∧ xs.length ≤ 20000)
noncomputable abbrev rdTab : FuncId → Option SpecF := tab [(30, intP smallB fillG), (22, byF)]
theorem rdata_run {nl : Option Bool} {cl : Bool} {z : Nat} {xs : List IV} (hx : xs.length ≤ 20000) : ∀ (j i : Nat) (l : List IV), i + j = fillN xs.length → l.length + j ≤ 90000 →
    Runs Try.prog hint (acall Try.prog hint (ovrOf rdTab)) 0 (hint.kp 31) (loopAt Try.prog 31 122) (Sx 31 [.fsl nl cl z xs, .osl 0 0, .int .i64 (i : Int)] [.row 0 false 1 l]) (.exit 0)
      (Sx 31 [.fsl nl cl z xs, .osl 0 0, .int .i64 ((fillN xs.length : Nat) : Int)] [.row 0 false 1 (l ++ List.replicate j (.int .u8 0))])
  | 0, i, l, h, hl => by
    refine Runs.last (n := 30) (ls := fun _ _ => none) loops_none inner0 (by simp) ((dat_in ..).trans ?_)
    rw [smallB_t (by omega), cond_true, fillG_nat, bif_f (by omega), show i = fillN xs.length by omega]
    simp
  | j + 1, i, l, h, hl => by
    have hk := fillN_lt xs.length
    have ih := rdata_run (nl := nl) (cl := cl) (z := z) hx j (i + 1) (l ++ [.int .u8 0]) (by omega) (by simp; omega)
    rw [List.append_assoc, show [IV.int .u8 0] ++ List.replicate j (IV.int .u8 0) = List.replicate (j + 1) (.int .u8 0) from rfl] at ih
    refine Runs.step (n := 30) (ls := fun _ _ => none) loops_none inner0 ((dat_in ..).trans ?_) ih
    have w : IntKind.i64.wrap ((i : Int) + 1) = ((i + 1 : Nat) : Int) := by rw [wrap_i64]; omega
    rw [smallB_t (by omega), cond_true, fillG_nat, w, bif_t (by omega), bif_t (app1' (by omega))]
theorem rdata_known : Known Try.prog hint 31 (rdataP rdataFC dataL) := by
  refine known_of fits (spec := rdTab) (tab_cons fill_known (tab_cons by_known tab_nil)) (ls := ltab [(31, 122, LF 31 0 (datL (fun xs l i => decide (xs.length ≤ 20000 ∧ l.length ≤ 80000 ∧ i = 0)) (fun xs l => l ++ List.replicate (fillN xs.length) (.int .u8 0)) (fun xs => ((fillN xs.length : Nat) : Int))))]) (ltab_cons (by kernel_rfl) (loopF_ok ?_) ltab_nil) ?_
  · (intro vs bx e vs' bx' h; unfold datL at h; split at h; rotate_left; · cases h)
    rename_i nl cl z xs i l
    (simp only [List.mem_cons, List.not_mem_nil, or_false, Prod.mk.injEq, Bool.true_eq, Bool.and_eq_true, decide_eq_true_eq] at h; obtain ⟨h1, rfl, rfl, rfl⟩ := h)
    obtain ⟨h1, h2, rfl⟩ := h1
    have hk := fillN_lt xs.length
    exact rdata_run (nl := nl) (cl := cl) (z := z) h1 (fillN xs.length) 0 l (by omega) (by omega)
  (intro xs T v T1 h; unfold rdataP rdataFC at h; split at h; rotate_left; · cases h)
  rename_i nl cl z xs
  (simp only [List.mem_cons, List.not_mem_nil, or_false, Prod.mk.injEq, Bool.true_eq, Bool.and_eq_true, decide_eq_true_eq] at h; obtain ⟨h1, rfl, rfl⟩ := h)
  refine ⟨30, (dat_all nl cl z xs _ _ _ _ _ _ _).trans ?_⟩
  have w1 : IntKind.u64.wrap (xs.length : Int) = xs.length := wrap_u64_id (by omega) (by omega)
  have e1 : byFG (xs.length : Int) 4 = u8s (be 4 xs.length) := rfl
  have e2 : byFC (xs.length : Int) 4 = true := rfl
  simp only [w1, e1, e2, cond_true]
  rw [bif_t (by (first | omega | (simp only [true_and, and_true]; omega) | ((simp only [List.length_append, List.length_cons, List.length_nil, List.length_replicate, List.length_map, u8s_len, be_len, roomB_nat, roomB_val, maxLen_val, Nat.mul_one] at *); omega) | (simp only [true_and, and_true]; (simp only [List.length_append, List.length_cons, List.length_nil, List.length_replicate, List.length_map, u8s_len, be_len, roomB_nat, roomB_val, maxLen_val, Nat.mul_one] at *); omega))), bif_t (by (first | omega | (simp only [true_and, and_true]; omega) | ((simp only [List.length_append, List.length_cons, List.length_nil, List.length_replicate, List.length_map, u8s_len, be_len, roomB_nat, roomB_val, maxLen_val, Nat.mul_one] at *); omega) | (simp only [true_and, and_true]; (simp only [List.length_append, List.length_cons, List.length_nil, List.length_replicate, List.length_map, u8s_len, be_len, roomB_nat, roomB_val, maxLen_val, Nat.mul_one] at *); omega))), bif_t (by (first | omega | (simp only [true_and, and_true]; omega) | ((simp only [List.length_append, List.length_cons, List.length_nil, List.length_replicate, List.length_map, u8s_len, be_len, roomB_nat, roomB_val, maxLen_val, Nat.mul_one] at *); omega) | (simp only [true_and, and_true]; (simp only [List.length_append, List.length_cons, List.length_nil, List.length_replicate, List.length_map, u8s_len, be_len, roomB_nat, roomB_val, maxLen_val, Nat.mul_one] at *); omega)))]
  rfl

/-- A number of bytes. -/
def getFC (xs : List IV) : Bool := decide (xs.length ≤ 8) && okB xs
def getFG (xs : List IV) : Int := ((numL (toBytes xs) : Nat) : Int)
theorem get_run {nl : Option Bool} {cl : Bool} {xs : List UInt8} (hx : xs.length ≤ 8) : ∀ (j i : Nat), i + j = xs.length →
    Runs Try.prog hint PCall 0 (hint.kp 33) (loopAt Try.prog 33 58) (Sx 33 [.int .u64 ((numL (xs.take i) : Nat) : Int), .fsl nl cl 1 (u8s xs), .int .i64 (xs.length : Int), .int .i64 (i : Int)] []) (.exit 0)
      (Sx 33 [.int .u64 ((numL xs : Nat) : Int), .fsl nl cl 1 (u8s xs), .int .i64 (xs.length : Int), .int .i64 (xs.length : Int)] [])
  | 0, i, h => by
    refine Runs.last (n := 30) (ls := fun _ _ => none) loops_none inner0 (by simp) ((get_in ..).trans ?_)
    rw [bif_f (by omega), show i = xs.length by omega, List.take_length]
  | j + 1, i, h => by
    have hi : i < xs.length := by omega
    refine Runs.step (n := 30) (ls := fun _ _ => none) loops_none inner0 ((get_in ..).trans ?_) (get_run hx j (i + 1) (by omega))
    have w : IntKind.i64.wrap ((i : Int) + 1) = ((i + 1 : Nat) : Int) := by rw [wrap_i64]; omega
    simp only [u8s_len, Int.toNat_natCast, w]
    rw [u8s_nth hi, cell_int, isOf_int, intOf_int, cond_true, bif_t (show (i : Int) < xs.length by omega)]
    rw [bif_t (by (first | omega | (simp only [true_and, and_true]; omega) | ((simp only [List.length_append, List.length_cons, List.length_nil, List.length_replicate, List.length_map, u8s_len, be_len, roomB_nat, roomB_val, maxLen_val, Nat.mul_one] at *); omega) | (simp only [true_and, and_true]; (simp only [List.length_append, List.length_cons, List.length_nil, List.length_replicate, List.length_map, u8s_len, be_len, roomB_nat, roomB_val, maxLen_val, Nat.mul_one] at *); omega)))]
    have hb := (xs.getD i 0).toNat_lt
    have hp : numL (xs.take i) < 256 ^ 7 := Nat.lt_of_lt_of_le (numL_lt _) (Nat.pow_le_pow_right (by decide) (by simp; omega))
    have e256 : (256 : Nat) ^ 7 = 72057594037927936 := by decide
    rw [e256] at hp
    have w1 : IntKind.u64.wrap (((numL (xs.take i) : Nat) : Int) * 2 ^ 8) = ((numL (xs.take i) * 2 ^ 8 : Nat) : Int) := by
      rw [wrap_u64, show (2 : Int) ^ 8 = 256 from rfl, show (2 : Nat) ^ 8 = 256 from rfl]; omega
    have w2 : IntKind.u64.wrap ((xs.getD i 0).toNat : Int) = ((xs.getD i 0).toNat : Int) := wrap_u64_id (by omega) (by omega)
    rw [w1, w2, or_u64 (k := 8) (by omega) (by omega)]
    have e : xs.take (i + 1) = xs.take i ++ [xs.getD i 0] := by
      rw [List.take_succ_eq_append_getElem hi, List.getD_eq_getElem?_getD, List.getElem?_eq_getElem hi]; rfl
    rw [e, numL_snoc]
theorem get_known : Known Try.prog hint 33 (getP getFC getFG) := by
  refine known_of fits (spec := tab []) tab_nil (ls := ltab [(33, 58, LF 33 0 (getL (fun n xs len i => decide (xs.length ≤ 8 ∧ len = xs.length ∧ n = 0 ∧ i = 0) && okB xs) getFG))]) (ltab_cons (by kernel_rfl) (loopF_ok ?_) ltab_nil) ?_
  · (intro vs bx e vs' bx' h; unfold getL getFG at h; split at h; rotate_left; · cases h)
    rename_i n nl cl xs len i
    (simp only [List.mem_cons, List.not_mem_nil, or_false, Prod.mk.injEq, Bool.true_eq, Bool.and_eq_true, decide_eq_true_eq] at h; obtain ⟨h1, rfl, rfl, rfl⟩ := h)
    obtain ⟨⟨h1, rfl, rfl, rfl⟩, h2⟩ := h1
    have e := okB_eq h2
    generalize toBytes xs = bs at e
    subst e
    rw [u8s_len] at h1 ⊢
    exact get_run (nl := nl) (cl := cl) h1 bs.length 0 (by omega)
  (intro xs T v T1 h; unfold getP getFC at h; split at h; rotate_left; · cases h)
  rename_i nl cl xs
  (simp only [List.mem_cons, List.not_mem_nil, or_false, Prod.mk.injEq, Bool.true_eq, Bool.and_eq_true, decide_eq_true_eq] at h; obtain ⟨h1, rfl, rfl⟩ := h)
  refine ⟨30, (get_all nl cl 1 xs _ _).trans ?_⟩
  have e : (decide (xs.length ≤ 8 ∧ ((xs.length : Nat) : Int) = xs.length ∧ (0 : Int) = 0 ∧ (0 : Int) = 0) && okB xs) = true := by rw [h1.2]; simp [h1.1]
  exact (congrArg (fun c => cond c _ _) e)
end Go.Proofs.Ytphddjolipaejaa
