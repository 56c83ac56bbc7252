/- Rows of binary digits. It bears no condition. -/
import Derived.Test.YtolpgbgmldpneaaDuH
import Derived.Test.YtolpgbgmldpneaaIm5
namespace Go.Proofs.Ytolpgbgmldpneaa
open Go Go.Im
set_option linter.unusedVariables false
set_option linter.unusedSimpArgs false
set_option maxRecDepth 20000
noncomputable section

/-! ### Same -/
def saP (c : List IV → List IV → Bool) (g : List IV → List IV → Bool) : SpecF := fun us T => match us, T with
  | [.fsl _ _ 1 l, .fsl _ _ 1 m], [] => [(c l m, .bool (g l m), [])]
  | _, _ => []
def cSam (l m : List IV) : Bool := okW l && okW m && decide (l.length ≤ 1000000000000000000)
def gSam (l m : List IV) : Bool := decide (toW l = toW m)
theorem sam_runs {sp : FuncId → Option SpecF} {a b : List Nat} (hl : a.length = b.length) (hb : a.length ≤ 1000000000000000000) {nl nl2 : Option Bool} {cl cl2 : Bool} : ∀ m i : Nat, i + m = a.length → a.take i = b.take i →
    ∃ e i', Runs Try.prog hint (acall Try.prog hint (ovrOf sp)) 0 (hint.kp 30) (loopAt Try.prog 30 58) (Sx 30 [.fsl nl cl 1 (w64s a), .fsl nl2 cl2 1 (w64s b), .bool false, .int .i64 (i : Int)] []) e
      (Sx 30 [.fsl nl cl 1 (w64s a), .fsl nl2 cl2 1 (w64s b), .bool false, .int .i64 i'] []) ∧ ((a = b ∧ e = .exit 0) ∨ (a ≠ b ∧ e = .ret))
  | 0, i, h, ht => by
    obtain rfl : i = a.length := by omega
    rw [List.take_length, hl, List.take_length] at ht
    have hr := sam_in sp nl cl (w64s a) nl2 cl2 (w64s b) a.length
    rw [w64s_len, w64s_len] at hr
    exact ⟨_, _, Runs.last (n := 30) (ls := fun _ _ => none) loops_none inner0 (by simp) (hr.trans (bif_stepF (decide_eq_false (by omega)) rfl)), .inl ⟨ht, rfl⟩⟩
  | m + 1, i, h, ht => by
    have hi : i < a.length := by omega
    have hi2 : i < b.length := by omega
    have hr := sam_in sp nl cl (w64s a) nl2 cl2 (w64s b) i
    rw [w64s_len, w64s_len, Int.toNat_natCast, w64s_nth hi, w64s_nth hi2, cellI', cellI', intI', intI', wadd1 (by omega)] at hr
    replace hr := fun r q => hr.trans (bif_step (r := r) (decide_eq_true (by omega)) (bif_step (decide_eq_true ⟨rfl, by omega, by omega⟩) (bif_step isOf_int (bif_step (decide_eq_true ⟨rfl, by omega, by omega⟩) (bif_step isOf_int q)))))
    by_cases hab : a[i] = b[i]
    · obtain ⟨e, i', ih, h2⟩ := sam_runs (sp := sp) hl hb (nl := nl) (nl2 := nl2) (cl := cl) (cl2 := cl2) m (i + 1) (by omega) (by
        rw [← List.take_append_getElem hi, ← List.take_append_getElem hi2, ht, hab])
      exact ⟨e, i', Runs.step (n := 30) (ls := fun _ _ => none) loops_none inner0 (hr _ (bif_stepF (by rw [hab]; exact bne_self_eq_false _) rfl)) ih, h2⟩
    · exact ⟨_, _, Runs.last (n := 30) (ls := fun _ _ => none) loops_none inner0 (by simp) (hr _ (bif_step (bne_iff_ne.2 (by omega)) rfl)), .inr ⟨fun hh => hab (by subst hh; rfl), rfl⟩⟩
theorem sam_known : Known Try.prog hint 30 (saP cSam gSam) := by
  refine known_any fits fun us T v T1 h => ?_
  unfold saP at h
  split at h
  case h_2 => cases h
  rename_i nl cl l nl2 cl2 l2
  simp only [List.mem_cons, List.not_mem_nil, or_false, Prod.mk.injEq, Bool.true_eq, cSam, Bool.and_eq_true, decide_eq_true_eq] at h
  obtain ⟨⟨⟨h1, h2⟩, h3⟩, rfl, rfl⟩ := h
  obtain ⟨e, ho⟩ := okW_eq h1
  obtain ⟨e2, ho2⟩ := okW_eq h2
  unfold gSam
  generalize toW l = a at *
  generalize toW l2 = b at *
  subst e e2
  rw [w64s_len] at h3
  by_cases hl : a.length = b.length
  · obtain ⟨e, i', q, hq⟩ := sam_runs (sp := fun _ => none) hl h3 (nl := nl) (nl2 := nl2) (cl := cl) (cl2 := cl2) a.length 0 (by omega) (by rw [List.take_zero, List.take_zero])
    have hne : (((w64s a).length : Int) != ((w64s b).length : Int)) = false := by rw [w64s_len, w64s_len, hl]; exact bne_self_eq_false _
    rcases hq with ⟨hab, rfl⟩ | ⟨hab, rfl⟩
    · rw [decide_eq_true hab]
      exact ⟨fun _ => none, _, (fun f F h => by cases h), ltab_run (by kernel_rfl) q ltab_nil (by kernel_rfl), 30, (sam_call (atB _ _) true i' nl cl (w64s a) nl2 cl2 (w64s b)).trans (bif_stepF hne (bif_step at_t rfl))⟩
    · rw [decide_eq_false hab]
      exact ⟨fun _ => none, _, (fun f F h => by cases h), ltab_run (by kernel_rfl) q ltab_nil (by kernel_rfl), 30, (sam_ret (atB _ _) i' nl cl (w64s a) nl2 cl2 (w64s b)).trans (bif_stepF hne (bif_step at_t rfl))⟩
  · rw [decide_eq_false (fun hh => hl (by rw [hh]))]
    exact ⟨fun _ => none, _, (fun f F h => by cases h), ltab_cons (by kernel_rfl) (fun _ _ _ _ h => (gF_off h).elim) ltab_nil, 30, (sam_call (fun _ _ => false) true 0 nl cl (w64s a) nl2 cl2 (w64s b)).trans (bif_step (bne_iff_ne.2 (by rw [w64s_len, w64s_len]; omega)) rfl)⟩

/-! ### Cut -/
def cCt (l : List IV) : Bool := @decide (∃ a : List Nat, l = n64s a ∧ a.length ≤ 1000000000000) (Classical.propDecidable _)
def gCt (l : List IV) : List IV := n64s (trimL (toN l))
theorem cCt_iff {l : List IV} : cCt l = true ↔ ∃ a : List Nat, l = n64s a ∧ a.length ≤ 1000000000000 := by unfold cCt; exact @decide_eq_true_iff _ (Classical.propDecidable _)
theorem cut_runs {sp : FuncId → Option SpecF} {a : List Nat} (hb : a.length ≤ 1000000000000) {nl : Option Bool} {cl : Bool} : ∀ n : Nat, n ≤ a.length → (trimL a).length ≤ n →
    Runs Try.prog hint (acall Try.prog hint (ovrOf sp)) 0 (hint.kp 55) (loopAt Try.prog 55 28) (Sx 55 [.fsl nl cl 1 (n64s a), .int .i64 (n : Int)] []) (.exit 0) (Sx 55 [.fsl nl cl 1 (n64s a), .int .i64 ((trimL a).length : Int)] [])
  | 0, h1, h2 => by
    have hr := cut_in sp nl cl (n64s a) ((0 : Nat) : Int)
    rw [show (trimL a).length = 0 by omega]
    exact Runs.last (n := 30) (ls := fun _ _ => none) loops_none inner0 (by simp) (hr.trans (bif_stepF rfl rfl))
  | n + 1, h1, h2 => by
    have hn : n < a.length := by omega
    have hr := cut_in sp nl cl (n64s a) ((n + 1 : Nat) : Int)
    rw [wsub1 (by omega), show ((n + 1 : Nat) : Int) - 1 = (n : Int) by omega, Int.toNat_natCast, n64s_nth hn, cellI', intI', n64s_len, and_beq] at hr
    replace hr := fun r q => hr.trans (bif_step (r := r) (by rw [decide_eq_true (by omega)]; rfl) (bif_step (decide_eq_true ⟨rfl, by omega, by omega⟩) (bif_step isOf_int q)))
    by_cases h0 : a[n] = 0
    · have hlt : (trimL a).length ≤ n := by
        by_cases he : (trimL a).length = n + 1
        · exact absurd h0 (trimL_last a n he _ (List.getElem?_eq_getElem hn))
        · omega
      exact Runs.step (n := 30) (ls := fun _ _ => none) loops_none inner0 (hr _ (bif_step (decide_eq_true h0) rfl)) (cut_runs hb n (by omega) hlt)
    · have he : (trimL a).length = n + 1 := by
        by_cases he : (trimL a).length ≤ n
        · exact absurd (trimL_above a n he hn) h0
        · omega
      rw [he]
      exact Runs.last (n := 30) (ls := fun _ _ => none) loops_none inner0 (by simp) (hr _ (bif_stepF (decide_eq_false h0) rfl))
theorem cut_known : Known Try.prog hint 55 (ctP cCt gCt) := by
  refine known_alt fits fun us T v T1 h => ?_
  unfold ctP at h
  split at h
  case h_2 => cases h
  rename_i nl cl l
  simp only [List.mem_cons, List.not_mem_nil, or_false, Prod.mk.injEq, Bool.true_eq, cCt_iff] at h
  obtain ⟨⟨a, rfl, hb⟩, rfl, rfl⟩ := h
  unfold gCt
  rw [toN_n64s]
  have hle := trimL_le a
  have q := cut_runs (sp := fun _ => none) hb (nl := nl) (cl := cl) a.length (Nat.le_refl _) hle
  refine ⟨[[.fsl nl cl 1 (n64s a)]], by simp, Splits.self _, fun ys hy => ?_⟩
  rw [List.mem_singleton] at hy
  subst hy
  refine ⟨noGd_of rfl, fun _ => none, _, (fun f F h => by cases h), ltab_run (by kernel_rfl) q ltab_nil (by kernel_rfl), 30, _, ?_, (cut_call (atB [.fsl nl cl 1 (n64s a), .int .i64 (a.length : Int)] []) nl cl (n64s a) (trimL a).length).trans (bif_step (at_eq (by rw [n64s_len]) rfl) (bif_step (decide_eq_true (by rw [n64s_len]; omega)) rfl))⟩
  refine Wk.fsl ?_ (.inl rfl) (by simp) (.inl rfl)
  rw [Int.toNat_natCast, Nat.sub_zero, List.drop_zero, n64s_take, ← trimL_take]

/-! ### Digits -/
theorem bit_and (x k : Nat) : IntKind.i64.wrap (ibits BinOp.and IntKind.u64 ((x / 2 ^ k : Nat) : Int) 1) = ((x / 2 ^ k % 2 : Nat) : Int) := by
  generalize x / 2 ^ k = y
  have e1 : (BitVec.ofInt IntKind.u64.bits (y : Int)).toNat = y % 18446744073709551616 := by
    simp only [IntKind.bits, BitVec.toNat_ofInt]; omega
  have e2 : (BitVec.ofInt IntKind.u64.bits (1 : Int)).toNat = 1 := by
    simp only [IntKind.bits, BitVec.toNat_ofInt]; omega
  simp only [ibits]
  rw [BitVec.toNat_and, e1, e2, Nat.and_one_is_mod, wrap_u64, wrap_i64]
  omega
theorem digin_runs {sp : FuncId → Option SpecF} {ls : List Nat} (ho : okL ls) (hl : ls.length ≤ 1000000) {nl : Option Bool} {cl : Bool} {i : Nat} (hi : i < ls.length) : ∀ m k : Nat, k + m = 64 →
    Runs Try.prog hint (acall Try.prog hint (ovrOf sp)) 0 (hint.kp 44) (loopAt Try.prog 44 3730) (Sx 44 [.fsl nl cl 1 (w64s ls), .osl 0 0, .int .i64 (i : Int), .int .i64 (k : Int)] [.row 0 false 1 (n64s (bitsN (valL ls) (64 * i + k)))]) (.exit 2)
      (Sx 44 [.fsl nl cl 1 (w64s ls), .osl 0 0, .int .i64 (i : Int), .int .i64 64] [.row 0 false 1 (n64s (bitsN (valL ls) (64 * (i + 1))))])
  | 0, k, h => by
    obtain rfl : k = 64 := by omega
    have hr := dig_in sp nl cl (w64s ls) (n64s (bitsN (valL ls) (64 * i + 64))) i ((64 : Nat) : Int)
    rw [show 64 * (i + 1) = 64 * i + 64 by omega]
    exact Runs.last (n := 30) (ls := fun _ _ => none) loops_none inner0 (by simp) (hr.trans (bif_stepF rfl rfl))
  | m + 1, k, h => by
    have ih := digin_runs (sp := sp) ho hl (nl := nl) (cl := cl) hi m (k + 1) (by omega)
    have hr := dig_in sp nl cl (w64s ls) (n64s (bitsN (valL ls) (64 * i + k))) i k
    have e1 := limb_dig (l := ls) (b := 2) (w := 64) (i := 64 * i + k) (by decide) (by decide) (by decide) ho (by omega)
    have a1 : (64 * i + k) / 64 = i := by omega
    have a2 : (64 * i + k) % 64 = k := by omega
    simp only [a1, a2] at e1
    rw [wu_nat (by omega), Int.toNat_natCast, Int.toNat_natCast, w64s_nth hi, cellI', intI', show min k 64 = k by omega, fdiv_pow, bit_and, e1, w64s_len, n64s_len, bitsN_len, wadd1 (by omega)] at hr
    have e3 : n64s (bitsN (valL ls) (64 * i + k)) ++ [IV.int .i64 ((valL ls / 2 ^ (64 * i + k) % 2 : Nat) : Int)] = n64s (bitsN (valL ls) (64 * i + (k + 1))) := by
      rw [show 64 * i + (k + 1) = 64 * i + k + 1 by omega]
      rw [bitsN_one, n64s_app]
      exact Eq.refl _
    rw [e3] at hr
    exact Runs.step (n := 30) (ls := fun _ _ => none) loops_none inner0 (hr.trans (bif_step (decide_eq_true (by omega)) (bif_step (decide_eq_true ⟨rfl, by omega, by omega⟩) (bif_step isOf_int (bif_step (decide_eq_true (by omega)) (bif_step (decide_eq_true (by rw [roomB_nat, maxLen_val, List.length_singleton]; omega)) rfl)))))) ih
theorem in44 : loopsOf (2 * 58) (loopAt Try.prog 44 58) = [(3730, itemAt Try.prog 44 3730)] := by kernel_rfl
theorem digout_runs {sp : FuncId → Option SpecF} {ls : List Nat} (ho : okL ls) (hl : ls.length ≤ 1000000) {nl : Option Bool} {cl : Bool} : ∀ m i : Nat, i + m = ls.length →
    Runs Try.prog hint (acall Try.prog hint (ovrOf sp)) 0 (hint.kp 44) (loopAt Try.prog 44 58) (Sx 44 [.fsl nl cl 1 (w64s ls), .osl 0 0, .int .i64 (i : Int), .int .i64 64] [.row 0 false 1 (n64s (bitsN (valL ls) (64 * i)))]) (.exit 0)
      (Sx 44 [.fsl nl cl 1 (w64s ls), .osl 0 0, .int .i64 (ls.length : Int), .int .i64 64] [.row 0 false 1 (n64s (bitsN (valL ls) (64 * ls.length)))])
  | 0, i, h => by
    obtain rfl : i = ls.length := by omega
    have hr := dig_out1 sp nl cl (w64s ls) (n64s (bitsN (valL ls) (64 * ls.length))) [] ls.length 0 64 (fun _ _ => false)
    rw [w64s_len] at hr
    exact Runs.last_off (n := 30) (by kernel_rfl) in44 (by simp) (hr.trans (bif_stepF (decide_eq_false (by omega)) rfl))
  | m + 1, i, h => by
    have ih := digout_runs (sp := sp) ho hl (nl := nl) (cl := cl) m (i + 1) (by omega)
    have q := digin_runs (sp := sp) ho hl (nl := nl) (cl := cl) (i := i) (by omega) 64 0 (by omega)
    have hr := dig_out1 sp nl cl (w64s ls) (n64s (bitsN (valL ls) (64 * i))) (n64s (bitsN (valL ls) (64 * (i + 1)))) i 64 64 (atB [.fsl nl cl 1 (w64s ls), .osl 0 0, .int .i64 (i : Int), .int .i64 ((0 : Nat) : Int)] [.row 0 false 1 (n64s (bitsN (valL ls) (64 * i + 0)))])
    rw [w64s_len, wadd1 (by omega)] at hr
    exact Runs.step_in (n := 30) (by kernel_rfl) in44 (by kernel_rfl) q (hr.trans (bif_step (decide_eq_true (by omega)) (bif_step (at_eq rfl rfl) rfl))) ih
def cDig (l : List IV) : Bool := okW l && decide (l.length ≤ 1000000)
def gDig (l : List IV) : List IV := n64s (bin (valL (toW l)))
theorem dig_known : Known Try.prog hint 44 (ctP cDig gDig) := by
  refine known_any fits fun us T v T1 h => ?_
  unfold ctP at h
  split at h
  case h_2 => cases h
  rename_i nl cl l
  simp only [List.mem_cons, List.not_mem_nil, or_false, Prod.mk.injEq, Bool.true_eq, cDig, Bool.and_eq_true, decide_eq_true_eq] at h
  obtain ⟨⟨h1, h2⟩, rfl, rfl⟩ := h
  obtain ⟨e, ho⟩ := okW_eq h1
  unfold gDig
  generalize toW l = ls at *
  subst e
  rw [w64s_len] at h2
  have htab : ∀ f F, tab [(55, ctP cCt gCt)] f = some F → Known Try.prog hint f F := tab_cons cut_known tab_nil
  by_cases h0 : ls.length = 0
  · obtain rfl := List.length_eq_zero_iff.1 h0
    refine ⟨_, fun _ _ => none, htab, loops_none, 30, (dig_call0 cCt gCt nl cl).trans (bif_step (cCt_iff.2 ⟨[], rfl, by simp⟩) ?_)⟩
    rw [show bin (valL []) = [] from bin_zero]
    rfl
  obtain ⟨m, hm⟩ : ∃ m, ls.length = m + 1 := ⟨ls.length - 1, by omega⟩
  have ih := digout_runs (sp := tab [(55, ctP cCt gCt)]) ho h2 (nl := nl) (cl := cl) m 1 (by omega)
  have q := digin_runs (sp := tab [(55, ctP cCt gCt)]) ho h2 (nl := nl) (cl := cl) (i := 0) (by omega) 64 0 (by omega)
  have hr := dig_out0 (tab [(55, ctP cCt gCt)]) nl cl (w64s ls) [] (n64s (bitsN (valL ls) (64 * (0 + 1)))) ((0 : Nat) : Int) 64 (atB [.fsl nl cl 1 (w64s ls), .osl 0 0, .int .i64 ((0 : Nat) : Int), .int .i64 ((0 : Nat) : Int)] [.row 0 false 1 []])
  rw [w64s_len, wadd1 (by omega)] at hr
  have q2 := Runs.step_in (n := 30) (by kernel_rfl) in44 (by kernel_rfl) q (hr.trans (bif_step (decide_eq_true (by omega)) (bif_step (at_eq rfl rfl) rfl))) ih
  have hV := valL_lt ho
  have hV2 : valL ls < 2 ^ (64 * ls.length) := by rw [Nat.pow_mul]; exact hV
  refine ⟨_, _, htab, ltab_run (by kernel_rfl) q2 ltab_nil (by kernel_rfl), 30, (dig_call (atB _ _) cCt gCt nl cl (w64s ls) _ _).trans (bif_step (at_eq rfl rfl) (bif_step (cCt_iff.2 ⟨_, rfl, by rw [bitsN_len]; omega⟩) ?_))⟩
  unfold gCt
  rw [toN_n64s, trim_bitsN hV2]

/-! ### Numbers of digits -/
theorem setInt {k k2 : IntKind} {n m : Int} : setEl (IV.int k n) 0 (.int k2 m) = .int k2 m := Eq.trans rfl rfl
theorem limb_small {L : List Nat} (ho : okL L) {i : Nat} (h : i / 64 < L.length) (hv : valL L < 2 ^ i) : L[i / 64] < 2 ^ (i % 64) := by
  rw [limb_at ho h]
  refine Nat.lt_of_le_of_lt (Nat.mod_le _ _) ((Nat.div_lt_iff_lt_mul (Nat.pow_pos (by decide))).2 ?_)
  rw [show (18446744073709551616 : Nat) = 2 ^ 64 from rfl, ← Nat.pow_mul, ← Nat.pow_add, show i % 64 + 64 * (i / 64) = i by omega]
  exact hv
theorem shl_bit {r : Nat} (h : r < 64) : IntKind.u64.wrap (1 * (2 : Int) ^ min r 64) = ((2 ^ r : Nat) : Int) := by
  rw [show min r 64 = r by omega, Int.one_mul, show ((2 : Int) ^ r) = ((2 ^ r : Nat) : Int) by rw [Int.natCast_pow]; rfl, wu_nat]
  have : 2 ^ r ≤ 2 ^ 63 := Nat.pow_le_pow_right (by decide) (by omega)
  omega
theorem num_runs {sp : FuncId → Option SpecF} {ds : List Nat} (hd : okD ds) (hl : ds.length ≤ 1000000000) {nl : Option Bool} {cl : Bool} : ∀ (m i : Nat) (L : List Nat), i + m = ds.length → okL L → L.length = (i + 63) / 64 → valL L = valB (ds.take i) →
    ∃ L', Runs Try.prog hint (acall Try.prog hint (ovrOf sp)) 0 (hint.kp 43) (loopAt Try.prog 43 122) (Sx 43 [.fsl nl cl 1 (n64s ds), .osl 0 0, .int .i64 (i : Int)] [.row 0 false 1 (w64s L)]) (.exit 0)
      (Sx 43 [.fsl nl cl 1 (n64s ds), .osl 0 0, .int .i64 (ds.length : Int)] [.row 0 false 1 (w64s L')]) ∧ okL L' ∧ L'.length = (ds.length + 63) / 64 ∧ valL L' = valB ds
  | 0, i, L, h, h1, h2, h3 => by
    obtain rfl : i = ds.length := by omega
    rw [List.take_length] at h3
    have hr := num_in sp nl cl (n64s ds) (w64s L) ds.length
    rw [n64s_len] at hr
    exact ⟨L, Runs.last (n := 30) (ls := fun _ _ => none) loops_none inner0 (by simp) (hr.trans (bif_stepF (decide_eq_false (by omega)) rfl)), h1, h2, h3⟩
  | m + 1, i, L, h, h1, h2, h3 => by
    have hi : i < ds.length := by omega
    have hr := num_in sp nl cl (n64s ds) (w64s L) i
    have hdi := hd _ (List.getElem_mem hi)
    rw [n64s_len, Int.toNat_natCast, n64s_nth hi, cellI', intI', tdiv64, tmod64, wi_nat (a := i / 64) (by omega), wu_nat (a := i % 64) (by omega), Int.toNat_natCast, Int.toNat_natCast, shl_bit (by omega), wadd1 (by omega), show [IV.int .u64 0] = w64s [0] from rfl, ← w64s_app] at hr
    replace hr := fun r q => hr.trans (bif_step (r := r) (decide_eq_true (by omega)) q)
    have hvl : valL L < 2 ^ i := by
      rw [h3]
      have := valB_lt (okD_take i hd)
      rw [List.length_take, show min i ds.length = i by omega] at this
      exact this
    have hbit : (((ds[i] : Nat) : Int) == 1) = decide (ds[i] = 1) := by rw [Bool.eq_iff_iff, beq_iff_eq, decide_eq_true_eq]; omega
    rw [hbit] at hr
    have htk : valB (ds.take (i + 1)) = valB (ds.take i) + 2 ^ i * ds[i] := by
      rw [← List.take_append_getElem hi, valB_app, List.length_take, show min i ds.length = i by omega]
      show _ + 2 ^ i * (ds[i] + 2 * 0) = _
      rw [Nat.mul_zero, Nat.add_zero]
    have key : ∀ L0 : List Nat, okL L0 → L0.length = i / 64 + 1 → valL L0 = valL L → ∀ (hj : i / 64 < L0.length), okL (L0.set (i / 64) (L0[i / 64] + 2 ^ (i % 64))) ∧ L0[i / 64] + 2 ^ (i % 64) < 18446744073709551616 ∧ valL (L0.set (i / 64) (L0[i / 64] + 2 ^ (i % 64))) = valL L + 2 ^ i := by
      intro L0 k1 k2 k3 hj
      have hs := limb_small (i := i) k1 hj (by rw [k3]; exact hvl)
      have hp : 2 ^ (i % 64) ≤ 2 ^ 63 := Nat.pow_le_pow_right (by decide) (by omega)
      refine ⟨okL_set k1 (by omega), by omega, ?_⟩
      rw [valL_set hj, k3, show (18446744073709551616 : Nat) = 2 ^ 64 from rfl, ← Nat.pow_mul, ← Nat.pow_add, show 64 * (i / 64) + i % 64 = i by omega]
    by_cases h64 : i % 64 = 0
    · replace hr := fun r q => hr r (bif_step (by rw [h64]; rfl) (bif_step (decide_eq_true (by rw [roomB_nat, maxLen_val, w64s_len]; omega)) (bif_step (decide_eq_true ⟨rfl, by omega, by omega⟩) (bif_step isOf_int q))))
      have g1 : okL (L ++ [0]) := okL_app h1 (okL_cons.2 ⟨by decide, okL_nil⟩)
      have g2 : (L ++ [0]).length = i / 64 + 1 := by rw [List.length_append, List.length_singleton]; omega
      have hj : i / 64 < (L ++ [0]).length := by omega
      rw [w64s_nth hj, cell_drop, intI', setInt, w64s_len, g2] at hr
      obtain ⟨c1, c2, c3⟩ := key (L ++ [0]) g1 g2 valL_zero hj
      by_cases hb : ds[i] = 1
      · rw [wadd' c2, w64s_set] at hr
        obtain ⟨L', ih, i1, i2, i3⟩ := num_runs (sp := sp) hd hl (nl := nl) (cl := cl) m (i + 1) _ (by omega) c1 (by rw [List.length_set, g2]; omega) (by rw [c3, htk, h3, hb, Nat.mul_one])
        exact ⟨L', Runs.step (n := 30) (ls := fun _ _ => none) loops_none inner0 (hr _ (bif_step (decide_eq_true hb) (bif_step (decide_eq_true (by omega)) (bif_step (decide_eq_true (by omega)) (bif_step isOf_int (bif_step (decide_eq_true (by omega)) (bif_step (decide_eq_true (by omega)) (bif_step (decide_eq_true (by omega)) rfl)))))))) ih, i1, i2, i3⟩
      · obtain ⟨L', ih, i1, i2, i3⟩ := num_runs (sp := sp) hd hl (nl := nl) (cl := cl) m (i + 1) _ (by omega) g1 (by rw [g2]; omega) (by rw [valL_zero, htk, h3, show ds[i] = 0 by omega, Nat.mul_zero, Nat.add_zero])
        exact ⟨L', Runs.step (n := 30) (ls := fun _ _ => none) loops_none inner0 (hr _ (bif_stepF (decide_eq_false hb) rfl)) ih, i1, i2, i3⟩
    · replace hr := fun r q => hr r (bif_stepF (beq_eq_false_iff_ne.2 (by omega)) (bif_step (decide_eq_true ⟨rfl, by omega, by omega⟩) (bif_step isOf_int q)))
      have g2 : L.length = i / 64 + 1 := by omega
      have hj : i / 64 < L.length := by omega
      rw [w64s_nth hj, cell_drop, intI', setInt, w64s_len, g2] at hr
      obtain ⟨c1, c2, c3⟩ := key L h1 g2 rfl hj
      by_cases hb : ds[i] = 1
      · rw [wadd' c2, w64s_set] at hr
        obtain ⟨L', ih, i1, i2, i3⟩ := num_runs (sp := sp) hd hl (nl := nl) (cl := cl) m (i + 1) _ (by omega) c1 (by rw [List.length_set, g2]; omega) (by rw [c3, htk, h3, hb, Nat.mul_one])
        exact ⟨L', Runs.step (n := 30) (ls := fun _ _ => none) loops_none inner0 (hr _ (bif_step (decide_eq_true hb) (bif_step (decide_eq_true (by omega)) (bif_step (decide_eq_true (by omega)) (bif_step isOf_int (bif_step (decide_eq_true (by omega)) (bif_step (decide_eq_true (by omega)) (bif_step (decide_eq_true (by omega)) rfl)))))))) ih, i1, i2, i3⟩
      · obtain ⟨L', ih, i1, i2, i3⟩ := num_runs (sp := sp) hd hl (nl := nl) (cl := cl) m (i + 1) _ (by omega) h1 (by rw [g2]; omega) (by rw [htk, h3, show ds[i] = 0 by omega, Nat.mul_zero, Nat.add_zero])
        exact ⟨L', Runs.step (n := 30) (ls := fun _ _ => none) loops_none inner0 (hr _ (bif_stepF (decide_eq_false hb) rfl)) ih, i1, i2, i3⟩
def cNum (l : List IV) : Bool := @decide (∃ a : List Nat, l = n64s a ∧ okD a ∧ a.length ≤ 1000000000) (Classical.propDecidable _)
theorem cNum_iff {l : List IV} : cNum l = true ↔ ∃ a : List Nat, l = n64s a ∧ okD a ∧ a.length ≤ 1000000000 := by unfold cNum; exact @decide_eq_true_iff _ (Classical.propDecidable _)
def gNum (l : List IV) : List IV := w64s (limbs (valB (toN l)))
theorem bin_top {n : Nat} (h : n ≠ 0) : 2 ^ ((bin n).length - 1) ≤ n := by
  induction n using Nat.strongRecOn with
  | ind n ih =>
    rw [bin_pos h, List.length_cons, Nat.add_sub_cancel]
    by_cases h2 : n / 2 = 0
    · rw [h2, bin_zero]; simp; omega
    · have ih := ih (n / 2) (by omega) h2
      have hl : 1 ≤ (bin (n / 2)).length := by rw [bin_pos h2, List.length_cons]; omega
      obtain ⟨k, hk⟩ : ∃ k, (bin (n / 2)).length = k + 1 := ⟨(bin (n / 2)).length - 1, by omega⟩
      rw [hk, Nat.add_sub_cancel] at ih
      rw [hk, Nat.pow_succ]
      omega
theorem num_known : Known Try.prog hint 43 (ctP cNum gNum) := by
  refine known_frz1 fits fun us T v T1 h => ?_
  unfold ctP at h
  split at h
  case h_2 => cases h
  rename_i nl cl l
  simp only [List.mem_cons, List.not_mem_nil, or_false, Prod.mk.injEq, Bool.true_eq, cNum_iff] at h
  obtain ⟨⟨a, rfl, ha, hl⟩, rfl, rfl⟩ := h
  unfold gNum
  rw [toN_n64s]
  have hg : gCt (n64s a) = n64s (bin (valB a)) := by unfold gCt; rw [toN_n64s, trimB_eq ha]
  have hle : (bin (valB a)).length ≤ a.length := bin_len (valB_lt ha)
  obtain ⟨L', q, q1, q2, q3⟩ := num_runs (sp := tab [(55, ctP cCt gCt)]) (ds := bin (valB a)) (bin_ok _) (by omega) (nl := none) (cl := false) (bin (valB a)).length 0 [] (by omega) okL_nil rfl rfl
  rw [valB_bin] at q3
  have hL : L' = limbs (valB a) := by
    have := limbs_full q1 (by
      by_cases h0 : valB a = 0
      · left; rw [q2, h0, bin_zero]; rfl
      · right
        have ht := bin_top h0
        have hl1 : 1 ≤ (bin (valB a)).length := by rw [bin_pos h0, List.length_cons]; omega
        rw [q2, q3, show (18446744073709551616 : Nat) = 2 ^ 64 from rfl, ← Nat.pow_mul]
        exact Nat.le_trans (Nat.pow_le_pow_right (by decide) (by omega)) ht)
    rw [q3] at this
    exact this
  subst hL
  have ht := num_call (atB [.fsl none false 1 (n64s (bin (valB a))), .osl 0 0, .int .i64 ((0 : Nat) : Int)] [.row 0 false 1 (w64s [])]) cCt gCt nl cl (n64s a) (w64s (limbs (valB a))) ((bin (valB a)).length : Int)
  rw [hg] at ht
  exact ⟨rfl, rfl, noGd_of rfl, tab [(55, ctP cCt gCt)], _, tab_cons cut_known tab_nil, ltab_run (by kernel_rfl) q ltab_nil (by kernel_rfl), 30, .osl 0 0, [.row 0 false 1 (w64s (limbs (valB a)))], .fsl none false 1 (w64s (limbs (valB a))), [0], ht.trans (bif_step (cCt_iff.2 ⟨a, rfl, by omega⟩) (bif_step (at_eq rfl rfl) rfl)), rfl, Wk.refl _⟩
/-! ### Trim -/
def gTrim (l : List IV) : List IV := w64s (limbs (valL (toW l)))
theorem trim_known : Known Try.prog hint 31 (ctP cDig gTrim) := by
  refine known_of fits (spec := tab [(44, ctP cDig gDig), (43, ctP cNum gNum)]) (tab_cons dig_known (tab_cons num_known tab_nil)) loops_none ?_
  (intro xs T v T1 h; unfold ctP at h; split at h; rotate_left; · cases h)
  rename_i nl cl l
  simp only [List.mem_cons, List.not_mem_nil, or_false, Prod.mk.injEq, Bool.true_eq] at h
  obtain ⟨h1, rfl, rfl⟩ := h
  have h2 := h1
  unfold cDig at h2
  rw [Bool.and_eq_true, decide_eq_true_eq] at h2
  obtain ⟨e, ho⟩ := okW_eq h2.1
  have hV := valL_lt ho
  have hlen : (toW l).length ≤ 1000000 := by have := h2.2; rw [e, w64s_len] at this; exact this
  have hb := bin_len (n := valL (toW l)) (k := 64 * (toW l).length) (by rw [Nat.pow_mul]; exact hV)
  refine ⟨30, (trim_tree cDig cNum gDig gNum nl cl l).trans (bif_step h1 (bif_step (cNum_iff.2 ⟨_, rfl, bin_ok _, by omega⟩) ?_))⟩
  unfold gNum gDig gTrim
  rw [toN_n64s, valB_bin]
end
end Go.Proofs.Ytolpgbgmldpneaa
