/- Natural numbers as values, the document's. It bears no condition. -/
import Derived.Test.YtolpgbgmldpneaaDuF
namespace Go.Proofs.Ytolpgbgmldpneaa
open Go Go.Im
set_option linter.unusedVariables false
set_option linter.unusedSimpArgs false
set_option maxRecDepth 20000
noncomputable section

/-- A number's bytes, all of the greatest limbs, a nought ahead. -/
def rowN (V n q : Nat) : List UInt8 := 0 :: be (n - q) ((V / 256 ^ q : Nat) : Int)
theorem rowN_len (V n q : Nat) : (rowN V n q).length = n - q + 1 := by unfold rowN; rw [List.length_cons, be_len]
theorem rowN_step {V n q : Nat} (h : q < n) : rowN V n q = rowN V n (q + 1) ++ [byteAt (V : Int) q] := by
  unfold rowN
  rw [show n - q = n - (q + 1) + 1 by omega, be_snoc, ← div_pow_succ, List.cons_append]
  congr 3
  refine UInt8.toNat_inj.1 ?_
  rw [byteAt_toNat, byteAt_toNat, Nat.pow_zero, Nat.div_one]
theorem rin_runs {sp : FuncId → Option SpecF} {ls : List Nat} (ho : okL ls) (hl : ls.length ≤ 1000000) {nl : Option Bool} {cl : Bool} {i : Nat} (hi : i < ls.length) : ∀ c : Nat, c ≤ 8 →
    Runs Try.prog hint (acall Try.prog hint (ovrOf sp)) 0 (hint.kp 25) (loopAt Try.prog 25 7826) (Sx 25 [.fsl nl cl 1 (w64s ls), .ptr 0 0, .osl 1 0, .int .i64 (i : Int), .int .i64 ((c : Int) - 1)] [nd0, .row 0 false 1 (u8s (rowN (valL ls) (8 * ls.length) (8 * i + c)))]) (.exit 2)
      (Sx 25 [.fsl nl cl 1 (w64s ls), .ptr 0 0, .osl 1 0, .int .i64 (i : Int), .int .i64 (-1)] [nd0, .row 0 false 1 (u8s (rowN (valL ls) (8 * ls.length) (8 * i)))])
  | 0, h => by
    have ht := rnat_in sp nl cl (w64s ls) i (((0 : Nat) : Int) - 1) (u8s (rowN (valL ls) (8 * ls.length) (8 * i + 0)))
    exact Runs.last (n := 30) (ls := fun _ _ => none) loops_none inner0 (by simp) (ht.trans (bif_stepF (decide_eq_false (by omega)) rfl))
  | c + 1, h => by
    have ih := rin_runs (sp := sp) ho hl (nl := nl) (cl := cl) hi c (by omega)
    have ht := rnat_in sp nl cl (w64s ls) i (((c + 1 : Nat) : Int) - 1) (u8s (rowN (valL ls) (8 * ls.length) (8 * i + (c + 1))))
    obtain ⟨h8, e1⟩ := byte_row ho (j := 8 * i + c) (by omega)
    have e2 : ls[i] / 256 ^ c % 256 = valL ls / 256 ^ (8 * i + c) % 256 := by
      rw [← e1]
      have a1 : (8 * i + c) / 8 = i := by omega
      have a2 : (8 * i + c) % 8 = c := by omega
      simp only [a1, a2]
    rw [show ((c + 1 : Nat) : Int) - 1 = (c : Int) by omega, wmul8 (by omega), wu_nat (by omega), Int.toNat_natCast, Int.toNat_natCast, w64s_nth hi, cellI', intI', limb_byte (by omega), e2, iv_byte, wsub1 (by omega), w64s_len, u8s_len, rowN_len, ← u8s_app] at ht
    rw [show 8 * i + (c + 1) = 8 * i + c + 1 by omega] at ht ⊢
    rw [← rowN_step (by omega)] at ht
    rw [show ((c + 1 : Nat) : Int) - 1 = (c : Int) by omega]
    exact Runs.step (n := 30) (ls := fun _ _ => none) loops_none inner0 (ht.trans (bif_step (decide_eq_true (by omega)) (bif_step (decide_eq_true ⟨rfl, by omega, by omega⟩) (bif_step isOf_int (bif_step (decide_eq_true (by omega)) (bif_step (decide_eq_true (by rw [roomB_nat, maxLen_val, u8s_len, List.length_singleton]; omega)) rfl)))))) ih
theorem in25 : loopsOf (2 * 122) (loopAt Try.prog 25 122) = [(7826, itemAt Try.prog 25 7826)] := by kernel_rfl
theorem rout_runs {sp : FuncId → Option SpecF} {ls : List Nat} (ho : okL ls) (hl : ls.length ≤ 1000000) {nl : Option Bool} {cl : Bool} : ∀ j : Nat, j ≤ ls.length →
    Runs Try.prog hint (acall Try.prog hint (ovrOf sp)) 0 (hint.kp 25) (loopAt Try.prog 25 122) (Sx 25 [.fsl nl cl 1 (w64s ls), .ptr 0 0, .osl 1 0, .int .i64 ((j : Int) - 1), .int .i64 (-1)] [nd0, .row 0 false 1 (u8s (rowN (valL ls) (8 * ls.length) (8 * j)))]) (.exit 0)
      (Sx 25 [.fsl nl cl 1 (w64s ls), .ptr 0 0, .osl 1 0, .int .i64 (-1), .int .i64 (-1)] [nd0, .row 0 false 1 (u8s (rowN (valL ls) (8 * ls.length) 0))])
  | 0, h => by
    have ht := rnat_out1 sp nl cl (w64s ls) (((0 : Nat) : Int) - 1) (u8s (rowN (valL ls) (8 * ls.length) (8 * 0))) [] (fun _ _ => false) 0 (-1)
    exact Runs.last_off (n := 30) (by kernel_rfl) in25 (by simp) (ht.trans (bif_stepF (decide_eq_false (by omega)) rfl))
  | j + 1, h => by
    have ih := rout_runs (sp := sp) ho hl (nl := nl) (cl := cl) j (by omega)
    have q := rin_runs (sp := sp) ho hl (nl := nl) (cl := cl) (i := j) (by omega) 8 (by omega)
    have ht := rnat_out1 sp nl cl (w64s ls) (((j + 1 : Nat) : Int) - 1) (u8s (rowN (valL ls) (8 * ls.length) (8 * (j + 1)))) (u8s (rowN (valL ls) (8 * ls.length) (8 * j)))
      (atB [.fsl nl cl 1 (w64s ls), .ptr 0 0, .osl 1 0, .int .i64 (j : Int), .int .i64 (((8 : Nat) : Int) - 1)] [nd0, .row 0 false 1 (u8s (rowN (valL ls) (8 * ls.length) (8 * j + 8)))]) (-1) (-1)
    rw [show ((j + 1 : Nat) : Int) - 1 = (j : Int) by omega, wsub1 (by omega), show 8 * (j + 1) = 8 * j + 8 by omega] at ht
    rw [show ((j + 1 : Nat) : Int) - 1 = (j : Int) by omega, show 8 * (j + 1) = 8 * j + 8 by omega]
    exact Runs.step_in (n := 30) (by kernel_rfl) in25 (by kernel_rfl) q (ht.trans (bif_step (decide_eq_true (by omega)) (bif_step (at_eq rfl rfl) rfl))) ih
theorem rout_start {sp : FuncId → Option SpecF} {ls : List Nat} (ho : okL ls) (hl : ls.length ≤ 1000000) (h0 : 0 < ls.length) {nl : Option Bool} {cl : Bool} :
    Runs Try.prog hint (acall Try.prog hint (ovrOf sp)) 0 (hint.kp 25) (loopAt Try.prog 25 122) (Sx 25 [.fsl nl cl 1 (w64s ls), .ptr 0 0, .osl 1 0, .int .i64 ((ls.length : Int) - 1), .undef] [nd0, .row 0 false 1 [.int .u8 0]]) (.exit 0)
      (Sx 25 [.fsl nl cl 1 (w64s ls), .ptr 0 0, .osl 1 0, .int .i64 (-1), .int .i64 (-1)] [nd0, .row 0 false 1 (u8s (rowN (valL ls) (8 * ls.length) 0))]) := by
  obtain ⟨j, hj⟩ : ∃ j, ls.length = j + 1 := ⟨ls.length - 1, by omega⟩
  have ih := rout_runs (sp := sp) ho hl (nl := nl) (cl := cl) j (by omega)
  have q := rin_runs (sp := sp) ho hl (nl := nl) (cl := cl) (i := j) (by omega) 8 (by omega)
  have e0 : u8s (rowN (valL ls) (8 * ls.length) (8 * j + 8)) = [.int .u8 0] := by
    unfold rowN
    rw [show 8 * ls.length - (8 * j + 8) = 0 by omega]
    exact Eq.refl _
  rw [e0] at q
  have ht := rnat_out0 sp nl cl (w64s ls) ((ls.length : Int) - 1) [.int .u8 0] (u8s (rowN (valL ls) (8 * ls.length) (8 * j)))
      (atB [.fsl nl cl 1 (w64s ls), .ptr 0 0, .osl 1 0, .int .i64 (j : Int), .int .i64 (((8 : Nat) : Int) - 1)] [nd0, .row 0 false 1 [.int .u8 0]]) (-1)
  rw [show (ls.length : Int) - 1 = (j : Int) by omega, wsub1 (by omega)] at ht
  rw [show (ls.length : Int) - 1 = (j : Int) by omega]
  exact Runs.step_in (n := 30) (by kernel_rfl) in25 (by kernel_rfl) q (ht.trans (bif_step (decide_eq_true (by omega)) (bif_step (at_eq rfl rfl) rfl))) ih

/-! ### Noughts that are not needed -/
theorem rowN_be (V n : Nat) (h : V < 256 ^ n) : rowN V n 0 = be (n + 1) (V : Int) := by
  unfold rowN
  rw [Nat.sub_zero, Nat.pow_zero, Nat.div_one, be_one]
  congr 1
  refine UInt8.toNat_inj.1 ?_
  rw [byteAt_toNat, Nat.div_eq_of_lt h]
  rfl
theorem be_nth {m V i : Nat} (h : i < m) : nthD (u8s (be m (V : Int))) i = .int .u8 ((V / 256 ^ (m - 1 - i) % 256 : Nat) : Int) := by
  induction m generalizing i with
  | zero => omega
  | succ m ih =>
    rw [be_one, u8s_cons]
    cases i with
    | zero =>
      rw [show m + 1 - 1 - 0 = m by omega, ← byteAt_toNat]
      exact Eq.refl _
    | succ i =>
      rw [show m + 1 - 1 - (i + 1) = m - 1 - i by omega, ← ih (by omega)]
      exact Eq.refl _
/-- Is the first byte of so many not needed? -/
theorem strip_iff {V m : Nat} (hV : V < 256 ^ m) (hm : 2 ≤ m) : (V / 256 ^ (m - 1) % 256 = 0 ∧ V / 256 ^ (m - 2) % 256 < 128) ↔ kN V < m := by
  have h1 := kN_le (n := V) (k := m - 1) (by omega)
  obtain ⟨j, rfl⟩ : ∃ j, m = j + 2 := ⟨m - 2, by omega⟩
  rw [show j + 2 - 1 - 1 = j by omega, show j + 2 - 1 = j + 1 by omega] at h1
  rw [show j + 2 - 1 = j + 1 by omega, show j + 2 - 2 = j by omega]
  have hs := div_step (b := 256) (x := V) (i := j) (by decide)
  have hp : 0 < 256 ^ j := Nat.pow_pos (by decide)
  have hb : V / 256 ^ (j + 1) < 256 := (Nat.div_lt_iff_lt_mul (Nat.pow_pos (by decide))).2 (by rw [Nat.mul_comm, ← Nat.pow_succ]; exact hV)
  have hc : V / 256 ^ j < 128 ↔ V < 128 * 256 ^ j := Nat.div_lt_iff_lt_mul hp
  omega
theorem and_beq {a : Nat} : (bif true then ((a : Int) == (0 : Int)) else false) = decide (a = 0) := by
  rw [cond_true, Bool.eq_iff_iff, beq_iff_eq, decide_eq_true_eq]; omega
abbrev st2 (nl : Option Bool) (cl : Bool) (l : List IV) (s : IV) (o : List UInt8) : St := Sx 25 [.fsl nl cl 1 l, .ptr 0 0, s, .int .i64 (-1), .int .i64 (-1)] [nd0, .row 0 false 1 (u8s o)]
theorem cell_drop {k : IntKind} {n : Int} : nthD (List.drop 0 (IV.int k n).cells) 0 = .int k n := Eq.trans rfl rfl
theorem st2_runs {sp : FuncId → Option SpecF} {V M : Nat} (hV : V < 256 ^ (M - 1)) (hM : 1 ≤ M) (hMM : M ≤ 100000000) {nl : Option Bool} {cl : Bool} {l : List IV} : ∀ m lo : Nat, lo + (kN V + m) = M →
    Runs Try.prog hint (acall Try.prog hint (ovrOf sp)) 0 (hint.kp 25) (loopAt Try.prog 25 124) (st2 nl cl l (.vsl 1 0 lo (kN V + m)) (be M (V : Int))) (.exit 4) (st2 nl cl l (.vsl 1 0 (M - kN V) (kN V)) (be M (V : Int)))
  | m, lo, h => by
    have hp := kN_pos V
    have ht := rnat_st2 sp nl cl l (-1) (-1) (u8s (be M (V : Int))) lo (kN V + m)
    by_cases h1 : kN V + m = 1
    · obtain rfl : m = 0 := by omega
      rw [show M - kN V = lo by omega]
      exact Runs.last (n := 30) (ls := fun _ _ => none) loops_none inner0 (by simp) (ht.trans (bif_stepF (by rw [decide_eq_false (by omega)]; rfl) rfl))
    have e0 := be_nth (m := M) (V := V) (i := lo + 0) (by omega)
    have e1 := be_nth (m := M) (V := V) (i := lo + 1) (by omega)
    rw [show M - 1 - (lo + 0) = kN V + m - 1 by omega] at e0
    rw [show M - 1 - (lo + 1) = kN V + m - 2 by omega] at e1
    rw [e0, e1, cell_drop, cell_drop, intI', intI', and_beq, cond_true, u8s_len, be_len] at ht
    have hs := strip_iff (V := V) (m := kN V + m) (by
      have := (kN_le hp).1 (Nat.le_refl _)
      obtain ⟨j, hj⟩ : ∃ j, kN V = j + 1 := ⟨kN V - 1, by omega⟩
      rw [hj, show j + 1 - 1 = j by omega] at this
      have h2 : 256 ^ (j + 1) ≤ 256 ^ (kN V + m) := Nat.pow_le_pow_right (by omega) (by omega)
      rw [Nat.pow_succ] at h2
      omega) (by omega)
    have hc := byteAt_lt V (kN V + m - 1)
    have hc2 := byteAt_lt V (kN V + m - 2)
    replace ht := fun r q => ht.trans (bif_step (r := r) (by rw [decide_eq_true (by omega)]; rfl) (bif_step (decide_eq_true (by omega)) (bif_step (decide_eq_true (by omega)) (bif_step isOf_int q))))
    generalize V / 256 ^ (kN V + m - 1) % 256 = a at *
    generalize V / 256 ^ (kN V + m - 2) % 256 = b at *
    match m, h, h1, ht, hs with
    | 0, h, h1, ht, hs =>
      rw [show M - kN V = lo by omega]
      have hs : ¬ (a = 0 ∧ b < 128) := fun hh => by have := hs.1 hh; omega
      by_cases ha : a = 0
      · refine Runs.last (n := 30) (ls := fun _ _ => none) loops_none inner0 (by simp) (ht _ (bif_step (by rw [decide_eq_true ha]; rfl) (bif_step (decide_eq_true (by omega)) (bif_step (decide_eq_true (by omega)) (bif_step isOf_int (bif_stepF (decide_eq_false (by omega)) rfl))))))
      · exact Runs.last (n := 30) (ls := fun _ _ => none) loops_none inner0 (by simp) (ht _ (bif_stepF (by rw [decide_eq_false ha]; rfl) rfl))
    | m + 1, h, h1, ht, hs =>
      have ih := st2_runs (sp := sp) hV hM hMM (nl := nl) (cl := cl) (l := l) m (lo + 1) (by omega)
      have hs := hs.2 (by omega)
      rw [Int.toNat_natCast, show kN V + (m + 1) - 1 = kN V + m by omega] at ht
      exact Runs.step (n := 30) (ls := fun _ _ => none) loops_none inner0 (ht _ (bif_step (by rw [decide_eq_true hs.1]; rfl) (bif_step (decide_eq_true (by omega)) (bif_step (decide_eq_true (by omega)) (bif_step isOf_int (bif_step (decide_eq_true (by omega)) (bif_step (decide_eq_true (by omega)) rfl))))))) ih
theorem st1_runs {sp : FuncId → Option SpecF} {V M : Nat} (hV : V < 256 ^ (M - 1)) (hM : 1 ≤ M) (hMM : M ≤ 100000000) (hk : kN V ≤ M) {nl : Option Bool} {cl : Bool} {l : List IV} :
    Runs Try.prog hint (acall Try.prog hint (ovrOf sp)) 0 (hint.kp 25) (loopAt Try.prog 25 124) (st2 nl cl l (.osl 1 0) (be M (V : Int))) (.exit 4) (st2 nl cl l (if kN V = M then .osl 1 0 else .vsl 1 0 (M - kN V) (kN V)) (be M (V : Int))) := by
  have hp := kN_pos V
  have ht := rnat_st1 sp nl cl l (-1) (-1) (u8s (be M (V : Int)))
  rw [u8s_len, be_len] at ht
  by_cases h1 : M = 1
  · rw [if_pos (by omega)]
    exact Runs.last (n := 30) (ls := fun _ _ => none) loops_none inner0 (by simp) (ht.trans (bif_stepF (by rw [decide_eq_false (by omega)]; rfl) rfl))
  have e0 := be_nth (m := M) (V := V) (i := 0) (by omega)
  have e1 := be_nth (m := M) (V := V) (i := 1) (by omega)
  rw [show M - 1 - 0 = M - 1 by omega] at e0
  rw [show M - 1 - 1 = M - 2 by omega] at e1
  rw [e0, e1, cell_drop, cell_drop, intI', intI', and_beq, cond_true] at ht
  have hs := strip_iff (V := V) (m := M) (Nat.lt_of_lt_of_le hV (Nat.pow_le_pow_right (by omega) (by omega))) (by omega)
  have hc := byteAt_lt V (M - 1)
  have hc2 := byteAt_lt V (M - 2)
  replace ht := fun r q => ht.trans (bif_step (r := r) (by rw [decide_eq_true (by omega)]; rfl) (bif_step (decide_eq_true (by omega)) (bif_step (decide_eq_true (by omega)) (bif_step isOf_int q))))
  generalize V / 256 ^ (M - 1) % 256 = a at *
  generalize V / 256 ^ (M - 2) % 256 = b at *
  by_cases hk2 : kN V = M
  · rw [if_pos hk2]
    have hs : ¬ (a = 0 ∧ b < 128) := fun hh => by have := hs.1 hh; omega
    by_cases ha : a = 0
    · refine Runs.last (n := 30) (ls := fun _ _ => none) loops_none inner0 (by simp) (ht _ (bif_step (by rw [decide_eq_true ha]; rfl) (bif_step (decide_eq_true (by omega)) (bif_step (decide_eq_true (by omega)) (bif_step isOf_int (bif_stepF (decide_eq_false (by omega)) rfl))))))
    · exact Runs.last (n := 30) (ls := fun _ _ => none) loops_none inner0 (by simp) (ht _ (bif_stepF (by rw [decide_eq_false ha]; rfl) rfl))
  · rw [if_neg hk2]
    obtain ⟨m, hm⟩ : ∃ m, M = kN V + (m + 1) := ⟨M - kN V - 1, by omega⟩
    have ih := st2_runs (sp := sp) hV hM hMM (nl := nl) (cl := cl) (l := l) m 1 (by omega)
    have hs := hs.2 (by omega)
    rw [Int.toNat_natCast, show M - 1 = kN V + m by omega] at ht
    exact Runs.step (n := 30) (ls := fun _ _ => none) loops_none inner0 (ht _ (bif_step (by rw [decide_eq_true hs.1]; rfl) (bif_step (decide_eq_true (by omega)) (bif_step (decide_eq_true (by omega)) (bif_step isOf_int (bif_step (decide_eq_true (by omega)) (bif_step (decide_eq_true (by omega)) rfl))))))) ih
theorem be_drop {V : Nat} : ∀ m k : Nat, List.drop m (be (m + k) (V : Int)) = be k (V : Int)
  | 0, k => by rw [Nat.zero_add, List.drop_zero]
  | m + 1, k => by rw [show m + 1 + k = m + k + 1 by omega, be_one, List.drop_succ_cons]; exact be_drop m k
theorem rnat_known : Known Try.prog hint 25 (natP cNat gNat) := by
  refine known_frz1 fits fun us T v T1 h => ?_
  unfold natP at h
  split at h
  case h_2 => cases h
  rename_i nl cl l
  simp only [List.mem_cons, List.not_mem_nil, or_false, Prod.mk.injEq, Bool.true_eq, cNat, Bool.and_eq_true, decide_eq_true_eq] at h
  obtain ⟨⟨h1, h2⟩, rfl, rfl⟩ := h
  obtain ⟨e, ho⟩ := okW_eq h1
  generalize toW l = ls at *
  subst e
  rw [w64s_len] at h2
  unfold gNat
  rw [toW_w64s]
  by_cases h0 : ls.length = 0
  · obtain rfl := List.length_eq_zero_iff.1 h0
    refine ⟨rfl, rfl, noGd_of rfl, fun _ => none, fun _ _ => none, (fun f F h => by cases h), loops_none, 30, .agg [.int .i64 2, .osl 0 0, .fsl (some true) true 0 []], [.row 0 false 1 (u8s (nb (valL [])))], _, [0], ?_, rfl, Wk.refl _⟩
    rw [show nb (valL []) = [0] by show be (kN 0) ((0 : Nat) : Int) = _; rw [kN_small (by decide)]; rfl]
    exact rnat_call0 nl cl
  have q1 := rout_start (sp := fun _ => none) ho h2 (by omega) (nl := nl) (cl := cl)
  have hV := valL_lt ho
  rw [pow64] at hV
  rw [rowN_be _ _ hV] at q1
  generalize hVV : valL ls = V at *
  have hk : kN V ≤ 8 * ls.length + 1 := (kN_le (by omega)).2 (by rw [Nat.add_sub_cancel]; omega)
  have q2 := st1_runs (sp := fun _ => none) (V := V) (M := 8 * ls.length + 1) (by rw [Nat.add_sub_cancel]; exact hV) (by omega) (by omega) hk (nl := nl) (cl := cl) (l := w64s ls)
  by_cases hk2 : kN V = 8 * ls.length + 1
  · rw [if_pos hk2] at q2
    have ht := rnat_call1 (atB [.fsl nl cl 1 (w64s ls), .ptr 0 0, .osl 1 0, .int .i64 ((ls.length : Int) - 1), .undef] [nd0, .row 0 false 1 [.int .u8 0]]) (atB [.fsl nl cl 1 (w64s ls), .ptr 0 0, .osl 1 0, .int .i64 (-1), .int .i64 (-1)] [nd0, .row 0 false 1 (u8s (be (8 * ls.length + 1) (V : Int)))]) nl cl (w64s ls) (u8s (be (8 * ls.length + 1) (V : Int)))
    rw [w64s_len, wsub1 (by omega)] at ht
    refine ⟨rfl, rfl, noGd_of rfl, fun _ => none, _, (fun f F h => by cases h), ltab_run (by kernel_rfl) q1 (ltab_run (by kernel_rfl) q2 ltab_nil (by kernel_rfl)) (by kernel_rfl), 30, .agg [.int .i64 2, .osl 0 0, .fsl (some true) true 0 []], [.row 0 false 1 (u8s (nb V))], _, [0], ht.trans (bif_step (at_eq rfl rfl) (bif_step (at_eq rfl rfl) ?_)), rfl, Wk.refl _⟩
    unfold nb
    rw [hk2]
  · rw [if_neg hk2] at q2
    have ht := rnat_call2 (atB [.fsl nl cl 1 (w64s ls), .ptr 0 0, .osl 1 0, .int .i64 ((ls.length : Int) - 1), .undef] [nd0, .row 0 false 1 [.int .u8 0]]) (atB [.fsl nl cl 1 (w64s ls), .ptr 0 0, .osl 1 0, .int .i64 (-1), .int .i64 (-1)] [nd0, .row 0 false 1 (u8s (be (8 * ls.length + 1) (V : Int)))]) nl cl (w64s ls) (u8s (be (8 * ls.length + 1) (V : Int))) (8 * ls.length + 1 - kN V) (kN V)
    rw [w64s_len, wsub1 (by omega)] at ht
    have e := be_drop (V := V) (8 * ls.length + 1 - kN V) (kN V)
    rw [show 8 * ls.length + 1 - kN V + kN V = 8 * ls.length + 1 by omega] at e
    refine ⟨rfl, rfl, noGd_of rfl, fun _ => none, _, (fun f F h => by cases h), ltab_run (by kernel_rfl) q1 (ltab_run (by kernel_rfl) q2 ltab_nil (by kernel_rfl)) (by kernel_rfl), 30, .agg [.int .i64 2, .vsl 0 0 (8 * ls.length + 1 - kN V) (kN V), .fsl (some true) true 0 []], [.row 0 false 1 (u8s (be (8 * ls.length + 1) (V : Int)))], ndV 2 none false 1 (((u8s (be (8 * ls.length + 1) (V : Int))).drop (8 * ls.length + 1 - kN V)).take (kN V)) (some true) true 0 [], [0], ht.trans (bif_step (at_eq rfl rfl) (bif_step (at_eq rfl rfl) rfl)), rfl, ?_⟩
    rw [u8s_drop, e, u8s_take, List.take_of_length_le (by rw [be_len]; exact Nat.le_refl _)]
    exact Wk.refl _
end
end Go.Proofs.Ytolpgbgmldpneaa
