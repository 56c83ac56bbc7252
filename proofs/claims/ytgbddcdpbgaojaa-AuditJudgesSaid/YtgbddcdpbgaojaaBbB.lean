/- Fields are written: what is proved of the given program. It bears no condition. -/
import Derived.Test.YtgbddcdpbgaojaaBbA
namespace Go.Proofs.Ytgbddcdpbgaojaa
open Go Go.Im
set_option linter.unusedVariables false
set_option linter.unusedSimpArgs false
set_option maxRecDepth 20000
/-- What leads a round's tests. -/
theorem app1 {l : List IV} {x : IV} (h : l.length ≤ 100000) : ((l.length + [x].length) * 1 ≤ roomB ∧ l.length + [x].length ≤ maxLen) := by
  simp only [List.length_cons, List.length_nil, roomB_nat, maxLen_val]; omega
theorem app1' {l : List IV} (h : l.length ≤ 100000) : ((l.length + 1) * 1 ≤ roomB ∧ l.length + 1 ≤ maxLen) := by
  simp only [roomB_nat, maxLen_val]; omega
theorem wi8 {k : Nat} (h : k ≤ 8) : IntKind.i64.wrap ((8 : Int) * (k : Int)) = ((8 * k : Nat) : Int) := by rw [wrap_i64]; omega
theorem wu8 {k : Nat} (h : k ≤ 8) : IntKind.u64.wrap (((8 * k : Nat)) : Int) = ((8 * k : Nat) : Int) := by rw [wrap_u64]; omega
theorem wim (k : Nat) (h : k ≤ 100000) : IntKind.i64.wrap ((k : Int) - 1) = (k : Int) - 1 := by rw [wrap_i64]; omega

theorem by_inner {x : Int} : ∀ (k : Nat) (l : List IV), k ≤ 8 → l.length + k ≤ 100000 →
    Runs Try.prog hint PCall 0 (hint.kp 50) (loopAt Try.prog 50 58) (Sx 50 [.int .u64 x, .osl 0 0, .int .i64 ((k : Int) - 1)] [.row 0 false 1 l]) (.exit 0)
      (Sx 50 [.int .u64 x, .osl 0 0, .int .i64 (-1)] [.row 0 false 1 (l ++ u8s (be k x))])
  | 0, l, hk, hl => by
    refine Runs.last (n := 30) (ls := fun _ _ => none) loops_none inner0 (by simp) ((by_in ..).trans ?_)
    rw [bif_f (by simp)]
    simp [be, u8s]
  | k + 1, l, hk, hl => by
    have e : ((k + 1 : Nat) : Int) - 1 = (k : Int) := by omega
    rw [e]
    refine Runs.step (n := 30) (ls := fun _ _ => none) loops_none inner0 ((by_in ..).trans ?_) (?_ : Runs _ _ _ _ _ _ (Sx 50 [.int .u64 x, .osl 0 0, .int .i64 ((k : Int) - 1)] [.row 0 false 1 (l ++ [.int .u8 ((byteAt x k).toNat : Int)])]) _ _)
    · rw [bif_t (by omega), wi8 (by omega), wu8 (by omega), bif_t (by omega), shr_byte x k (by omega), bif_t (app1 (by omega)), wim k (by omega)]
    · have := by_inner (x := x) k (l ++ [.int .u8 ((byteAt x k).toNat : Int)]) (by omega) (by simp; omega)
      simpa [be, u8s_cons] using this

def dataL (xs : List IV) : List IV := u8s (be 4 (xs.length : Int)) ++ xs ++ List.replicate (fillN xs.length) (.int .u8 0)
theorem dataL_len (xs : List IV) : (dataL xs).length = 4 + xs.length + fillN xs.length := by simp [dataL, u8s_len, be_len, Nat.add_assoc]


abbrev putC (_x i : Int) (l : List IV) : Bool := decide (-1 ≤ i ∧ i < 8 ∧ l.length ≤ 99000)
abbrev putG (x i : Int) (l : List IV) : List IV := l ++ u8s (be (i + 1).toNat x)
def byFC (_x n : Int) : Bool := decide (0 ≤ n ∧ n ≤ 8)
def byFG (x n : Int) : List IV := u8s (be n.toNat x)
abbrev byF : SpecF := byP byFC byFG
theorem by_known : Known Try.prog hint 50 byF := by
  refine known_of fits (spec := tab []) tab_nil (ls := ltab [(50, 58, LF 50 0 (byL putC putG))]) (ltab_cons (by kernel_rfl) (loopF_ok ?_) ltab_nil) ?_
  · (intro vs bx e vs' bx' h; unfold byL at h; split at h; rotate_left; · cases h)
    rename_i x i l
    (simp only [List.mem_cons, List.not_mem_nil, or_false, Prod.mk.injEq, Bool.true_eq, Bool.and_eq_true, decide_eq_true_eq] at h; obtain ⟨h1, rfl, rfl, rfl⟩ := h)
    have := by_inner (x := x) (i + 1).toNat l (by omega) (by omega)
    have e : (((i + 1).toNat : Nat) : Int) - 1 = i := by omega
    rw [e] at this
    exact this
  (intro xs T v T1 h; unfold byF byP byFC byFG at h; split at h; rotate_left; · cases h)
  rename_i x n
  (simp only [List.mem_cons, List.not_mem_nil, or_false, Prod.mk.injEq, Bool.true_eq, Bool.and_eq_true, decide_eq_true_eq] at h; obtain ⟨h1, rfl, rfl⟩ := h)
  refine ⟨30, (by_all _ _ putC putG).trans ?_⟩
  have w : IntKind.i64.wrap (n - 1) = n - 1 := by rw [wrap_i64]; omega
  have w2 : (n - 1 + 1).toNat = n.toNat := by congr 1; omega
  simp only [w, w2]
  rw [bif_t (by (simp only [List.length_append, List.length_cons, List.length_nil, List.length_replicate, List.length_map, u8s_len, be_len, roomB_nat, roomB_val, maxLen_val, Nat.mul_one] at *); omega)]
  simp

def fillG (n : Int) : Int := ((fillN n.toNat : Nat) : Int)
theorem fillG_nat (n : Nat) : fillG (n : Int) = ((fillN n : Nat) : Int) := rfl
theorem fill_run {n : Nat} (hn : n ≤ 100000) : ∀ (j k : Nat), k + j = fillN n → Runs Try.prog hint PCall 0 (hint.kp 46) (loopAt Try.prog 46 28) (Sx 46 [.int .i64 (n : Int), .int .i64 (k : Int)] []) (.exit 0)
      (Sx 46 [.int .i64 (n : Int), .int .i64 ((fillN n : Nat) : Int)] [])
  | 0, k, h => by
    refine Runs.last (n := 30) (ls := fun _ _ => none) loops_none inner0 (by simp) ((fill_in ..).trans ?_)
    have e : ((IntKind.i64.wrap ((n : Int) + (k : Int))).tmod 4 != 0) = false := by
      have : fillN n < 4 := fillN_lt n
      rw [wrap_i64, Int.tmod_eq_emod_of_nonneg (by omega), bne_eq_false_iff_eq]
      unfold fillN at h
      omega
    rw [e, cond_false, show k = fillN n by omega]
  | j + 1, k, h => by
    have hk := fillN_lt n
    refine Runs.step (n := 30) (ls := fun _ _ => none) loops_none inner0 ((fill_in ..).trans ?_) (fill_run hn j (k + 1) (by omega))
    have e : ((IntKind.i64.wrap ((n : Int) + (k : Int))).tmod 4 != 0) = true := by
      rw [wrap_i64, Int.tmod_eq_emod_of_nonneg (by omega), bne_iff_ne]
      unfold fillN at h hk
      omega
    have w : IntKind.i64.wrap ((k : Int) + 1) = ((k + 1 : Nat) : Int) := by rw [wrap_i64]; omega
    rw [e, cond_true, w]
theorem fill_known : Known Try.prog hint 46 (intP smallB fillG) := by
  refine known_of fits (spec := tab []) tab_nil (ls := ltab [(46, 28, LF 46 0 (fillL (fun n k => decide (0 ≤ n ∧ n ≤ 100000 ∧ k = 0)) fillG))]) (ltab_cons (by kernel_rfl) (loopF_ok ?_) ltab_nil) ?_
  · (intro vs bx e vs' bx' h; unfold fillL fillG at h; split at h; rotate_left; · cases h)
    rename_i n k
    (simp only [List.mem_cons, List.not_mem_nil, or_false, Prod.mk.injEq, Bool.true_eq, Bool.and_eq_true, decide_eq_true_eq] at h; obtain ⟨h1, rfl, rfl, rfl⟩ := h)
    obtain ⟨h1, h2, rfl⟩ := h1
    have := fill_run (n := n.toNat) (by omega) (fillN n.toNat) 0 (by omega)
    have e : ((n.toNat : Nat) : Int) = n := by omega
    rw [e] at this
    exact this
  (intro xs T v T1 h; unfold intP smallB at h; split at h; rotate_left; · cases h)
  rename_i n
  (simp only [List.mem_cons, List.not_mem_nil, or_false, Prod.mk.injEq, Bool.true_eq, Bool.and_eq_true, decide_eq_true_eq] at h; obtain ⟨h1, rfl, rfl⟩ := h)
  exact ⟨30, (fill_all _ _ _).trans (by rw [bif_t (by omega)])⟩

def rdataFC (z : Nat) (xs : List IV) : Bool := decide ((z = 1 ∨ xs.length = 0) ∧ xs.length ≤ 20000)
noncomputable abbrev rdTab : FuncId → Option SpecF := tab [(46, intP smallB fillG), (50, byF)]
theorem rdata_run {nl : Option Bool} {cl : Bool} {z : Nat} {xs : List IV} (hx : xs.length ≤ 20000) : ∀ (j i : Nat) (l : List IV), i + j = fillN xs.length → l.length + j ≤ 90000 →
    Runs Try.prog hint (acall Try.prog hint (ovrOf rdTab)) 0 (hint.kp 51) (loopAt Try.prog 51 122) (Sx 51 [.fsl nl cl z xs, .osl 0 0, .int .i64 (i : Int)] [.row 0 false 1 l]) (.exit 0)
      (Sx 51 [.fsl nl cl z xs, .osl 0 0, .int .i64 ((fillN xs.length : Nat) : Int)] [.row 0 false 1 (l ++ List.replicate j (.int .u8 0))])
  | 0, i, l, h, hl => by
    refine Runs.last (n := 30) (ls := fun _ _ => none) loops_none inner0 (by simp) ((dat_in ..).trans ?_)
    rw [smallB_t (by omega), cond_true, fillG_nat, bif_f (by omega), show i = fillN xs.length by omega]
    simp
  | j + 1, i, l, h, hl => by
    have hk := fillN_lt xs.length
    have ih := rdata_run (nl := nl) (cl := cl) (z := z) hx j (i + 1) (l ++ [.int .u8 0]) (by omega) (by simp; omega)
    rw [List.append_assoc, show [IV.int .u8 0] ++ List.replicate j (IV.int .u8 0) = List.replicate (j + 1) (.int .u8 0) from rfl] at ih
    refine Runs.step (n := 30) (ls := fun _ _ => none) loops_none inner0 ((dat_in ..).trans ?_) ih
    have w : IntKind.i64.wrap ((i : Int) + 1) = ((i + 1 : Nat) : Int) := by rw [wrap_i64]; omega
    rw [smallB_t (by omega), cond_true, fillG_nat, w, bif_t (by omega), bif_t (app1' (by omega))]
theorem rdata_known : Known Try.prog hint 51 (rdataP rdataFC dataL) := by
  refine known_of fits (spec := rdTab) (tab_cons fill_known (tab_cons by_known tab_nil)) (ls := ltab [(51, 122, LF 51 0 (datL (fun xs l i => decide (xs.length ≤ 20000 ∧ l.length ≤ 80000 ∧ i = 0)) (fun xs l => l ++ List.replicate (fillN xs.length) (.int .u8 0)) (fun xs => ((fillN xs.length : Nat) : Int))))]) (ltab_cons (by kernel_rfl) (loopF_ok ?_) ltab_nil) ?_
  · (intro vs bx e vs' bx' h; unfold datL at h; split at h; rotate_left; · cases h)
    rename_i nl cl z xs i l
    (simp only [List.mem_cons, List.not_mem_nil, or_false, Prod.mk.injEq, Bool.true_eq, Bool.and_eq_true, decide_eq_true_eq] at h; obtain ⟨h1, rfl, rfl, rfl⟩ := h)
    obtain ⟨h1, h2, rfl⟩ := h1
    have hk := fillN_lt xs.length
    exact rdata_run (nl := nl) (cl := cl) (z := z) h1 (fillN xs.length) 0 l (by omega) (by omega)
  (intro xs T v T1 h; unfold rdataP rdataFC at h; split at h; rotate_left; · cases h)
  rename_i nl cl z xs
  (simp only [List.mem_cons, List.not_mem_nil, or_false, Prod.mk.injEq, Bool.true_eq, Bool.and_eq_true, decide_eq_true_eq] at h; obtain ⟨h1, rfl, rfl⟩ := h)
  refine ⟨30, (dat_all nl cl z xs _ _ _ _ _ _ _).trans ?_⟩
  have w1 : IntKind.u64.wrap (xs.length : Int) = xs.length := wrap_u64_id (by omega) (by omega)
  have e1 : byFG (xs.length : Int) 4 = u8s (be 4 xs.length) := rfl
  have e2 : byFC (xs.length : Int) 4 = true := rfl
  simp only [w1, e1, e2, cond_true]
  rw [bif_t (by (first | omega | (simp only [true_and, and_true]; omega) | ((simp only [List.length_append, List.length_cons, List.length_nil, List.length_replicate, List.length_map, u8s_len, be_len, roomB_nat, roomB_val, maxLen_val, Nat.mul_one] at *); omega) | (simp only [true_and, and_true]; (simp only [List.length_append, List.length_cons, List.length_nil, List.length_replicate, List.length_map, u8s_len, be_len, roomB_nat, roomB_val, maxLen_val, Nat.mul_one] at *); omega))), bif_t (by (first | omega | (simp only [true_and, and_true]; omega) | ((simp only [List.length_append, List.length_cons, List.length_nil, List.length_replicate, List.length_map, u8s_len, be_len, roomB_nat, roomB_val, maxLen_val, Nat.mul_one] at *); omega) | (simp only [true_and, and_true]; (simp only [List.length_append, List.length_cons, List.length_nil, List.length_replicate, List.length_map, u8s_len, be_len, roomB_nat, roomB_val, maxLen_val, Nat.mul_one] at *); omega))), bif_t (by (first | omega | (simp only [true_and, and_true]; omega) | ((simp only [List.length_append, List.length_cons, List.length_nil, List.length_replicate, List.length_map, u8s_len, be_len, roomB_nat, roomB_val, maxLen_val, Nat.mul_one] at *); omega) | (simp only [true_and, and_true]; (simp only [List.length_append, List.length_cons, List.length_nil, List.length_replicate, List.length_map, u8s_len, be_len, roomB_nat, roomB_val, maxLen_val, Nat.mul_one] at *); omega)))]
  rfl

noncomputable section
theorem xRowP_mem {c : XV → Bool} {g : XV → List IV} {xs : List IV} {T : List Blk} {v : IV} {T1 : List Blk} (h : (true, v, T1) ∈ xRowP c g xs T) : ∃ x : XV, xs = [x.iv] ∧ T = [] ∧ c x = true ∧ v = .osl 0 0 ∧ T1 = [.row 0 false 1 (g x)] := by
  unfold xRowP at h
  split at h
  · rename_i a b c' d ts fs n1 c1 z1 l1 n2 c2 z2 l2
    simp only [List.mem_cons, List.not_mem_nil, or_false, Prod.mk.injEq, Bool.true_eq] at h
    exact ⟨⟨a, b, c', d, ts, fs, n1, c1, z1, l1, n2, c2, z2, l2⟩, rfl, rfl, h.1, h.2.1, h.2.2⟩
  · cases h
def xsize (v : XV) : Nat := 24 + (v.l1.length + fillN v.l1.length) + (v.l2.length + fillN v.l2.length)
theorem btw_known : Known Try.prog hint 38 btwF := by
  refine known_of fits (spec := tab []) tab_nil loops_none ?_
  (intro xs T v T1 h; unfold btwF at h; split at h; rotate_left; · cases h)
  rename_i a b c
  (simp only [List.mem_cons, List.not_mem_nil, or_false, Prod.mk.injEq, Bool.true_eq, Bool.and_eq_true, decide_eq_true_eq] at h; obtain ⟨h1, rfl, rfl⟩ := h)
  exact ⟨30, (btw_all ..).trans (by congr 3; rw [Bool.eq_iff_iff]; simp)⟩
theorem byFC2 (x : Int) : byFC x 2 = true := Eq.trans rfl rfl
theorem byFC4 (x : Int) : byFC x 4 = true := Eq.trans rfl rfl
theorem byFG2 (x : Int) : byFG x 2 = u8s (be 2 x) := Eq.trans rfl rfl
theorem byFG4 (x : Int) : byFG x 4 = u8s (be 4 x) := Eq.trans rfl rfl
theorem byFG_len (x n : Int) : (byFG x n).length = n.toNat := by simp [byFG, u8s_len, be_len]
theorem byl2 (x : Int) : (byFG x 2).length = 2 := byFG_len x 2
theorem byl4 (x : Int) : (byFG x 4).length = 4 := byFG_len x 4
theorem byl8 (x : Int) : (byFG x 8).length = 8 := byFG_len x 8
/-- A field's first byte. -/
def fst8 (v : XV) : Int := v.a + (bif v.b then 128 else 0) + (bif v.c then 64 else 0)
def fieldL (v : XV) : List IV := [.int .u8 (fst8 v), .int .u8 0] ++ u8s (be 2 (xsize v : Nat)) ++ u8s (be 2 (IntKind.u64.wrap v.d)) ++ [.int .u8 0, .int .u8 0] ++ u8s (be 4 (IntKind.u64.wrap v.ts)) ++ u8s (be 4 (IntKind.u64.wrap v.fs)) ++ dataL v.l1 ++ dataL v.l2
theorem fieldL_len (v : XV) : (fieldL v).length = xsize v := by
  simp only [fieldL, List.length_append, List.length_cons, List.length_nil, u8s_len, be_len, dataL_len, xsize]
  omega
def fieldC (v : XV) : Bool := decide (1 ≤ v.a ∧ v.a ≤ 63 ∧ (v.z1 = 1 ∨ v.l1.length = 0) ∧ (v.z2 = 1 ∨ v.l2.length = 0) ∧ v.l1.length ≤ 20000 ∧ v.l2.length ≤ 20000)
theorem field_known : Known Try.prog hint 47 (xRowP fieldC fieldL) := by
  refine known_of fits (spec := tab [(46, intP smallB fillG), (50, byF), (51, rdataP rdataFC dataL)]) (tab_cons fill_known (tab_cons by_known (tab_cons rdata_known tab_nil))) loops_none ?_
  intro xs T v T1 h
  obtain ⟨x, rfl, rfl, hx, rfl, rfl⟩ := xRowP_mem h
  simp only [fieldC, decide_eq_true_eq] at hx
  refine ⟨30, (field_all ..).trans ?_⟩
  have h1 := fillN_lt x.l1.length
  have h2 := fillN_lt x.l2.length
  have e : IntKind.u64.wrap (IntKind.i64.wrap (IntKind.i64.wrap (IntKind.i64.wrap (IntKind.i64.wrap (24 + (x.l1.length : Int)) + ((fillN x.l1.length : Nat) : Int)) + (x.l2.length : Int)) + ((fillN x.l2.length : Nat) : Int))) = ((xsize x : Nat) : Int) := by
    rw [show (24 : Int) = ((24 : Nat) : Int) from rfl, wadd (by omega), wadd (by omega), wadd (by omega), wadd (by omega), wu_nat (by omega)]
    unfold xsize
    congr 1; omega
  have r1 : rdataFC x.z1 x.l1 = true := by simp only [rdataFC, decide_eq_true_eq]; omega
  have r2 : rdataFC x.z2 x.l2 = true := by simp only [rdataFC, decide_eq_true_eq]; omega
  have s1 := smallB_t (show x.l1.length ≤ 100000 by omega)
  have s2 := smallB_t (show x.l2.length ≤ 100000 by omega)
  have hl : ∀ f : Int, f = fst8 x → [IV.int .u8 f, .int .u8 0] ++ u8s (be 2 (xsize x : Nat)) ++ u8s (be 2 (IntKind.u64.wrap x.d)) ++ [.int .u8 0, .int .u8 0] ++ u8s (be 4 (IntKind.u64.wrap x.ts)) ++ u8s (be 4 (IntKind.u64.wrap x.fs)) ++ dataL x.l1 ++ dataL x.l2 = fieldL x := fun f h => by subst h; rfl
  have f0 : ∀ k : Int, 1 ≤ k → k ≤ 255 → IntKind.u8.wrap k = k := fun k h1 h2 => wrap_u8_id (by omega) (by omega)
  have f1 : ∀ k : Int, k = 128 ∨ k = 64 → IntKind.i64.wrap (x.a + k) = x.a + k := fun k hk => wrap_i64_id (by omega) (by omega)
  have f2 : IntKind.i64.wrap (x.a + 128 + 64) = x.a + 128 + 64 := wrap_i64_id (by omega) (by omega)
  cases hb : x.b <;> cases hc : x.c
  · refine bif_stepF rfl (bif_stepF rfl ?_)
    refine bif_step s1 (bif_step s2 (bif_step (byFC2 _) ?_))
    (refine bif_step (decide_eq_true (by (simp only [List.length_append, List.length_cons, List.length_nil, List.length_replicate, u8s_len, be_len, dataL_len, byl2, byl4, byl8, roomB_nat, maxLen_val, Nat.mul_one, true_and, and_true, true_or, or_true, eq_self, Nat.zero_add] <;> omega))) ?_)
    refine bif_step (byFC2 _) ?_
    (refine bif_step (decide_eq_true (by (simp only [List.length_append, List.length_cons, List.length_nil, List.length_replicate, u8s_len, be_len, dataL_len, byl2, byl4, byl8, roomB_nat, maxLen_val, Nat.mul_one, true_and, and_true, true_or, or_true, eq_self, Nat.zero_add] <;> omega))) ?_)
    (refine bif_step (decide_eq_true (by (simp only [List.length_append, List.length_cons, List.length_nil, List.length_replicate, u8s_len, be_len, dataL_len, byl2, byl4, byl8, roomB_nat, maxLen_val, Nat.mul_one, true_and, and_true, true_or, or_true, eq_self, Nat.zero_add] <;> omega))) ?_)
    refine bif_step (byFC4 _) ?_
    (refine bif_step (decide_eq_true (by (simp only [List.length_append, List.length_cons, List.length_nil, List.length_replicate, u8s_len, be_len, dataL_len, byl2, byl4, byl8, roomB_nat, maxLen_val, Nat.mul_one, true_and, and_true, true_or, or_true, eq_self, Nat.zero_add] <;> omega))) ?_)
    refine bif_step (byFC4 _) ?_
    (refine bif_step (decide_eq_true (by (simp only [List.length_append, List.length_cons, List.length_nil, List.length_replicate, u8s_len, be_len, dataL_len, byl2, byl4, byl8, roomB_nat, maxLen_val, Nat.mul_one, true_and, and_true, true_or, or_true, eq_self, Nat.zero_add] <;> omega))) ?_)
    refine bif_step r1 ?_
    (refine bif_step (decide_eq_true (by (simp only [List.length_append, List.length_cons, List.length_nil, List.length_replicate, u8s_len, be_len, dataL_len, byl2, byl4, byl8, roomB_nat, maxLen_val, Nat.mul_one, true_and, and_true, true_or, or_true, eq_self, Nat.zero_add] <;> omega))) ?_)
    refine bif_step r2 ?_
    (refine bif_step (decide_eq_true (by (simp only [List.length_append, List.length_cons, List.length_nil, List.length_replicate, u8s_len, be_len, dataL_len, byl2, byl4, byl8, roomB_nat, maxLen_val, Nat.mul_one, true_and, and_true, true_or, or_true, eq_self, Nat.zero_add] <;> omega))) ?_)
    have hf : fst8 x = x.a := by simp [fst8, hb, hc]
    rw [← hl _ hf.symm]
    simp only [byFG2, byFG4, fillG_nat, e, f0 (x.a) (by omega) (by omega)]
    rfl
  · refine bif_stepF rfl (bif_step rfl ?_)
    refine bif_step s1 (bif_step s2 (bif_step (byFC2 _) ?_))
    (refine bif_step (decide_eq_true (by (simp only [List.length_append, List.length_cons, List.length_nil, List.length_replicate, u8s_len, be_len, dataL_len, byl2, byl4, byl8, roomB_nat, maxLen_val, Nat.mul_one, true_and, and_true, true_or, or_true, eq_self, Nat.zero_add] <;> omega))) ?_)
    refine bif_step (byFC2 _) ?_
    (refine bif_step (decide_eq_true (by (simp only [List.length_append, List.length_cons, List.length_nil, List.length_replicate, u8s_len, be_len, dataL_len, byl2, byl4, byl8, roomB_nat, maxLen_val, Nat.mul_one, true_and, and_true, true_or, or_true, eq_self, Nat.zero_add] <;> omega))) ?_)
    (refine bif_step (decide_eq_true (by (simp only [List.length_append, List.length_cons, List.length_nil, List.length_replicate, u8s_len, be_len, dataL_len, byl2, byl4, byl8, roomB_nat, maxLen_val, Nat.mul_one, true_and, and_true, true_or, or_true, eq_self, Nat.zero_add] <;> omega))) ?_)
    refine bif_step (byFC4 _) ?_
    (refine bif_step (decide_eq_true (by (simp only [List.length_append, List.length_cons, List.length_nil, List.length_replicate, u8s_len, be_len, dataL_len, byl2, byl4, byl8, roomB_nat, maxLen_val, Nat.mul_one, true_and, and_true, true_or, or_true, eq_self, Nat.zero_add] <;> omega))) ?_)
    refine bif_step (byFC4 _) ?_
    (refine bif_step (decide_eq_true (by (simp only [List.length_append, List.length_cons, List.length_nil, List.length_replicate, u8s_len, be_len, dataL_len, byl2, byl4, byl8, roomB_nat, maxLen_val, Nat.mul_one, true_and, and_true, true_or, or_true, eq_self, Nat.zero_add] <;> omega))) ?_)
    refine bif_step r1 ?_
    (refine bif_step (decide_eq_true (by (simp only [List.length_append, List.length_cons, List.length_nil, List.length_replicate, u8s_len, be_len, dataL_len, byl2, byl4, byl8, roomB_nat, maxLen_val, Nat.mul_one, true_and, and_true, true_or, or_true, eq_self, Nat.zero_add] <;> omega))) ?_)
    refine bif_step r2 ?_
    (refine bif_step (decide_eq_true (by (simp only [List.length_append, List.length_cons, List.length_nil, List.length_replicate, u8s_len, be_len, dataL_len, byl2, byl4, byl8, roomB_nat, maxLen_val, Nat.mul_one, true_and, and_true, true_or, or_true, eq_self, Nat.zero_add] <;> omega))) ?_)
    have hf : fst8 x = x.a + 64 := by simp [fst8, hb, hc]
    rw [← hl _ hf.symm]
    simp only [byFG2, byFG4, fillG_nat, e, f1 64 (.inr rfl), f0 (x.a + 64) (by omega) (by omega)]
    rfl
  · refine bif_step rfl (bif_stepF rfl ?_)
    refine bif_step s1 (bif_step s2 (bif_step (byFC2 _) ?_))
    (refine bif_step (decide_eq_true (by (simp only [List.length_append, List.length_cons, List.length_nil, List.length_replicate, u8s_len, be_len, dataL_len, byl2, byl4, byl8, roomB_nat, maxLen_val, Nat.mul_one, true_and, and_true, true_or, or_true, eq_self, Nat.zero_add] <;> omega))) ?_)
    refine bif_step (byFC2 _) ?_
    (refine bif_step (decide_eq_true (by (simp only [List.length_append, List.length_cons, List.length_nil, List.length_replicate, u8s_len, be_len, dataL_len, byl2, byl4, byl8, roomB_nat, maxLen_val, Nat.mul_one, true_and, and_true, true_or, or_true, eq_self, Nat.zero_add] <;> omega))) ?_)
    (refine bif_step (decide_eq_true (by (simp only [List.length_append, List.length_cons, List.length_nil, List.length_replicate, u8s_len, be_len, dataL_len, byl2, byl4, byl8, roomB_nat, maxLen_val, Nat.mul_one, true_and, and_true, true_or, or_true, eq_self, Nat.zero_add] <;> omega))) ?_)
    refine bif_step (byFC4 _) ?_
    (refine bif_step (decide_eq_true (by (simp only [List.length_append, List.length_cons, List.length_nil, List.length_replicate, u8s_len, be_len, dataL_len, byl2, byl4, byl8, roomB_nat, maxLen_val, Nat.mul_one, true_and, and_true, true_or, or_true, eq_self, Nat.zero_add] <;> omega))) ?_)
    refine bif_step (byFC4 _) ?_
    (refine bif_step (decide_eq_true (by (simp only [List.length_append, List.length_cons, List.length_nil, List.length_replicate, u8s_len, be_len, dataL_len, byl2, byl4, byl8, roomB_nat, maxLen_val, Nat.mul_one, true_and, and_true, true_or, or_true, eq_self, Nat.zero_add] <;> omega))) ?_)
    refine bif_step r1 ?_
    (refine bif_step (decide_eq_true (by (simp only [List.length_append, List.length_cons, List.length_nil, List.length_replicate, u8s_len, be_len, dataL_len, byl2, byl4, byl8, roomB_nat, maxLen_val, Nat.mul_one, true_and, and_true, true_or, or_true, eq_self, Nat.zero_add] <;> omega))) ?_)
    refine bif_step r2 ?_
    (refine bif_step (decide_eq_true (by (simp only [List.length_append, List.length_cons, List.length_nil, List.length_replicate, u8s_len, be_len, dataL_len, byl2, byl4, byl8, roomB_nat, maxLen_val, Nat.mul_one, true_and, and_true, true_or, or_true, eq_self, Nat.zero_add] <;> omega))) ?_)
    have hf : fst8 x = x.a + 128 := by simp [fst8, hb, hc]
    rw [← hl _ hf.symm]
    simp only [byFG2, byFG4, fillG_nat, e, f1 128 (.inl rfl), f0 (x.a + 128) (by omega) (by omega)]
    rfl
  · refine bif_step rfl (bif_step rfl ?_)
    refine bif_step s1 (bif_step s2 (bif_step (byFC2 _) ?_))
    (refine bif_step (decide_eq_true (by (simp only [List.length_append, List.length_cons, List.length_nil, List.length_replicate, u8s_len, be_len, dataL_len, byl2, byl4, byl8, roomB_nat, maxLen_val, Nat.mul_one, true_and, and_true, true_or, or_true, eq_self, Nat.zero_add] <;> omega))) ?_)
    refine bif_step (byFC2 _) ?_
    (refine bif_step (decide_eq_true (by (simp only [List.length_append, List.length_cons, List.length_nil, List.length_replicate, u8s_len, be_len, dataL_len, byl2, byl4, byl8, roomB_nat, maxLen_val, Nat.mul_one, true_and, and_true, true_or, or_true, eq_self, Nat.zero_add] <;> omega))) ?_)
    (refine bif_step (decide_eq_true (by (simp only [List.length_append, List.length_cons, List.length_nil, List.length_replicate, u8s_len, be_len, dataL_len, byl2, byl4, byl8, roomB_nat, maxLen_val, Nat.mul_one, true_and, and_true, true_or, or_true, eq_self, Nat.zero_add] <;> omega))) ?_)
    refine bif_step (byFC4 _) ?_
    (refine bif_step (decide_eq_true (by (simp only [List.length_append, List.length_cons, List.length_nil, List.length_replicate, u8s_len, be_len, dataL_len, byl2, byl4, byl8, roomB_nat, maxLen_val, Nat.mul_one, true_and, and_true, true_or, or_true, eq_self, Nat.zero_add] <;> omega))) ?_)
    refine bif_step (byFC4 _) ?_
    (refine bif_step (decide_eq_true (by (simp only [List.length_append, List.length_cons, List.length_nil, List.length_replicate, u8s_len, be_len, dataL_len, byl2, byl4, byl8, roomB_nat, maxLen_val, Nat.mul_one, true_and, and_true, true_or, or_true, eq_self, Nat.zero_add] <;> omega))) ?_)
    refine bif_step r1 ?_
    (refine bif_step (decide_eq_true (by (simp only [List.length_append, List.length_cons, List.length_nil, List.length_replicate, u8s_len, be_len, dataL_len, byl2, byl4, byl8, roomB_nat, maxLen_val, Nat.mul_one, true_and, and_true, true_or, or_true, eq_self, Nat.zero_add] <;> omega))) ?_)
    refine bif_step r2 ?_
    (refine bif_step (decide_eq_true (by (simp only [List.length_append, List.length_cons, List.length_nil, List.length_replicate, u8s_len, be_len, dataL_len, byl2, byl4, byl8, roomB_nat, maxLen_val, Nat.mul_one, true_and, and_true, true_or, or_true, eq_self, Nat.zero_add] <;> omega))) ?_)
    have hf : fst8 x = x.a + 128 + 64 := by simp [fst8, hb, hc]
    rw [← hl _ hf.symm]
    simp only [byFG2, byFG4, fillG_nat, e, f1 128 (.inl rfl), f2, f0 (x.a + 128 + 64) (by omega) (by omega)]
    rfl
end
end Go.Proofs.Ytgbddcdpbgaojaa
