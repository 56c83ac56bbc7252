/- Fields are read: what is proved of the given program. It bears no condition. -/
import Derived.Test.YtgbddcdpbgaojaaAwP
namespace Go.Proofs.Ytgbddcdpbgaojaa
open Go Go.Im
set_option linter.unusedVariables false
set_option linter.unusedSimpArgs false
set_option maxRecDepth 20000
noncomputable section

/-! ### A row with its length ahead -/
def cutN (l : List IV) : Nat := numL (toBytes (l.take 4))
def cutV (l : List IV) : List IV := (l.drop 4).take (cutN l)
def cutR (l : List IV) : List IV := (l.drop 4).drop (cutN l + fillN (cutN l))
def zeroL (xs : List IV) : Bool := xs.all fun x => intOf x == 0
def cutF (l : List IV) : List IV := ((l.drop 4).drop (cutN l)).take (fillN (cutN l))
def cutOK (l : List IV) : Bool := decide (4 ≤ l.length ∧ cutN l ≤ 2048 ∧ cutN l + fillN (cutN l) ≤ l.length - 4) && zeroL (cutF l)
def rowB (z : Nat) (l : List IV) : Bool := decide (z = 1 ∧ l.length ≤ 100000) && okB l
def cutC1 (z : Nat) (l : List IV) : Bool := rowB z l && cutOK l
def cutC2 (z : Nat) (l : List IV) : Bool := rowB z l && !cutOK l
abbrev cutTab : FuncId → Option SpecF := tab [(42, getP getFC getFG), (52, intP smallB padG), (45, cloneP cloneC)]
theorem cutTab_ok : ∀ f F, cutTab f = some F → Known Try.prog hint f F := tab_cons get_known (tab_cons pad_known (tab_cons clone_known tab_nil))
theorem okB_take {l : List IV} (h : okB l = true) (n : Nat) : okB (l.take n) = true := by
  rw [okB_eq h, u8s_take]; exact okB_u8s _
theorem okB_drop {l : List IV} (h : okB l = true) (n : Nat) : okB (l.drop n) = true := by
  rw [okB_eq h, u8s_drop]; exact okB_u8s _
theorem okB_nth {l : List IV} (h : okB l = true) {i : Nat} (hi : i < l.length) : ∃ n : Nat, l[i] = .int .u8 (n : Int) ∧ n < 256 := by
  have := List.all_eq_true.1 h _ (List.getElem_mem hi)
  split at this
  · rename_i n hn
    simp only [decide_eq_true_eq] at this
    exact ⟨n.toNat, by rw [hn]; congr 1; omega, by omega⟩
  · cases this
theorem nthD_get {l : List IV} {i : Nat} (hi : i < l.length) : nthD l i = l[i] := by simp [nthD, List.getD_eq_getElem?_getD, List.getElem?_eq_getElem hi]
def ctStep (s : Nat → St) (i : Nat) (_x : Unit) (v : IV) : Unit ⊕ (Ex × St) := if intOf v == 0 then .inl () else .inr (.ret, s i)
def ctEnd : Nat → List IV → Nat
  | i, [] => i
  | i, v :: vs => if intOf v == 0 then ctEnd (i + 1) vs else i
theorem ct_fold (s : Nat → St) : ∀ (vs : List IV) (i : Nat), foldE (ctStep s) i () vs = if zeroL vs then .inl () else .inr (.ret, s (ctEnd i vs))
  | [], i => by simp [foldE, zeroL]
  | v :: vs, i => by
    unfold foldE ctEnd
    simp only [ctStep, zeroL, List.all_cons]
    by_cases h1 : (intOf v == 0) = true
    · simp only [h1, if_true, Bool.true_and]
      exact ct_fold s vs (i + 1)
    · simp only [h1, if_false, Bool.false_eq_true, Bool.false_and]
theorem ct_runs {b : Bool} {n : Int} {nl nl2 : Option Bool} {cl cl2 : Bool} {l xs : List IV} (hx : okB xs = true) (hl : xs.length ≤ 100000) :
    EachOK Try.prog hint (acall Try.prog hint (ovrOf cutTab)) 0 (hint.kp 49) (loopAt Try.prog 49 506) (Sx 49 [.fsl nl cl 1 l, .fsl (some true) true 0 [], .fsl (some true) true 0 [], .bool b, .int .u64 n, .fsl nl2 cl2 1 xs, .int .i64 (xs.length : Int), .int .i64 ((0 : Nat) : Int)] []) (.exit 0)
      (fun _ : Unit => Sx 49 [.fsl nl cl 1 l, .fsl (some true) true 0 [], .fsl (some true) true 0 [], .bool b, .int .u64 n, .fsl nl2 cl2 1 xs, .int .i64 (xs.length : Int), .int .i64 (xs.length : Int)] [])
      (foldE (ctStep fun i => Sx 49 [.fsl nl cl 1 l, .fsl (some true) true 0 [], .fsl (some true) true 0 [], .bool false, .int .u64 n, .fsl nl2 cl2 1 xs, .int .i64 (xs.length : Int), .int .i64 (i : Int)] []) 0 () xs) := by
  refine runs_each (X := Unit) (l := xs) (n := 30) (ls := fun _ _ => none) loops_none inner0 (fun i _ => Sx 49 [.fsl nl cl 1 l, .fsl (some true) true 0 [], .fsl (some true) true 0 [], .bool b, .int .u64 n, .fsl nl2 cl2 1 xs, .int .i64 (xs.length : Int), .int .i64 (i : Int)] []) _
    (fun _ _ => True) (e := .exit 0) (by simp) ?_ ?_ xs.length 0 () (by omega) trivial
  · intro i _ hi _
    have ht := cut_in b n xs.length i nl nl2 cl cl2 l xs
    obtain ⟨k, hk, _⟩ := okB_nth hx hi
    rw [Int.toNat_natCast, nthD_get hi, hk] at ht
    rw [hk]
    simp only [ctStep]
    rw [intOf_int]
    by_cases h1 : (k : Int) = 0
    · refine .inl ⟨_, if_pos (by rw [h1]; rfl), ht.trans ?_, trivial⟩
      (refine bif_step (by first | assumption | exact decide_eq_true (by (first | omega | (simp only [true_and, and_true]; omega) | ((simp only [List.length_append, List.length_cons, List.length_nil, List.length_replicate, List.length_map, u8s_len, be_len, roomB_nat, roomB_val, maxLen_val, Nat.mul_one] at *); omega) | (simp only [true_and, and_true]; (simp only [List.length_append, List.length_cons, List.length_nil, List.length_replicate, List.length_map, u8s_len, be_len, roomB_nat, roomB_val, maxLen_val, Nat.mul_one] at *); omega)))) ?_)
      (refine bif_step (by first | assumption | exact decide_eq_true (by (first | omega | (simp only [true_and, and_true]; omega) | ((simp only [List.length_append, List.length_cons, List.length_nil, List.length_replicate, List.length_map, u8s_len, be_len, roomB_nat, roomB_val, maxLen_val, Nat.mul_one] at *); omega) | (simp only [true_and, and_true]; (simp only [List.length_append, List.length_cons, List.length_nil, List.length_replicate, List.length_map, u8s_len, be_len, roomB_nat, roomB_val, maxLen_val, Nat.mul_one] at *); omega)))) ?_)
      refine bif_step rfl (bif_stepF ?_ ?_)
      · rw [cell_int, intOf_int, h1]; rfl
      · rw [wadd1 (by omega)]
    · refine .inr ⟨_, _, if_neg (by simpa using h1), by simp, ht.trans ?_⟩
      (refine bif_step (by first | assumption | exact decide_eq_true (by (first | omega | (simp only [true_and, and_true]; omega) | ((simp only [List.length_append, List.length_cons, List.length_nil, List.length_replicate, List.length_map, u8s_len, be_len, roomB_nat, roomB_val, maxLen_val, Nat.mul_one] at *); omega) | (simp only [true_and, and_true]; (simp only [List.length_append, List.length_cons, List.length_nil, List.length_replicate, List.length_map, u8s_len, be_len, roomB_nat, roomB_val, maxLen_val, Nat.mul_one] at *); omega)))) ?_)
      (refine bif_step (by first | assumption | exact decide_eq_true (by (first | omega | (simp only [true_and, and_true]; omega) | ((simp only [List.length_append, List.length_cons, List.length_nil, List.length_replicate, List.length_map, u8s_len, be_len, roomB_nat, roomB_val, maxLen_val, Nat.mul_one] at *); omega) | (simp only [true_and, and_true]; (simp only [List.length_append, List.length_cons, List.length_nil, List.length_replicate, List.length_map, u8s_len, be_len, roomB_nat, roomB_val, maxLen_val, Nat.mul_one] at *); omega)))) ?_)
      refine bif_step rfl (bif_step ?_ rfl)
      rw [cell_int, intOf_int]; simpa using h1
  · intro _ _
    refine (cut_in b n xs.length xs.length nl nl2 cl cl2 l xs).trans ?_
    (refine bif_stepF (by first | assumption | exact decide_eq_false (by (first | omega | (simp only [true_and, and_true]; omega) | ((simp only [List.length_append, List.length_cons, List.length_nil, List.length_replicate, List.length_map, u8s_len, be_len, roomB_nat, roomB_val, maxLen_val, Nat.mul_one] at *); omega) | (simp only [true_and, and_true]; (simp only [List.length_append, List.length_cons, List.length_nil, List.length_replicate, List.length_map, u8s_len, be_len, roomB_nat, roomB_val, maxLen_val, Nat.mul_one] at *); omega)))) ?_)
    rfl
def ctD1 (xs : List IV) (len i : Int) : Bool := decide (xs.length ≤ 100000 ∧ len = xs.length ∧ i = 0) && (okB xs && zeroL xs)
def ctD2 (xs : List IV) (len i : Int) : Bool := decide (xs.length ≤ 100000 ∧ len = xs.length ∧ i = 0) && (okB xs && !zeroL xs)
def ctG (xs : List IV) : Int := ((ctEnd 0 xs : Nat) : Int)
theorem cut_ls : LoopsOK Try.prog hint (acall Try.prog hint (ovrOf cutTab)) (ltab [(49, 506, LF 49 0 (cutL ctD1 ctD2 ctG))]) := by
  refine ltab_cons (by kernel_rfl) (loopF_ok ?_) ltab_nil
  (intro vs bx e vs' bx' h; unfold cutL at h; split at h; rotate_left; · cases h)
  rename_i nl cl l b n nl2 cl2 xs len i
  simp only [List.mem_cons, List.not_mem_nil, or_false, Prod.mk.injEq, Bool.true_eq] at h
  rcases h with ⟨h1, rfl, rfl, rfl⟩ | ⟨h1, rfl, rfl, rfl⟩
  · simp only [ctD1, Bool.and_eq_true, decide_eq_true_eq] at h1
    obtain ⟨⟨h1, rfl, rfl⟩, h2, h3⟩ := h1
    have := ct_runs (b := b) (n := n) (nl := nl) (nl2 := nl2) (cl := cl) (cl2 := cl2) (l := l) h2 h1
    rw [ct_fold, if_pos h3] at this
    exact this
  · simp only [ctD2, Bool.and_eq_true, decide_eq_true_eq, Bool.not_eq_true'] at h1
    obtain ⟨⟨h1, rfl, rfl⟩, h2, h3⟩ := h1
    have := ct_runs (b := b) (n := n) (nl := nl) (nl2 := nl2) (cl := cl) (cl2 := cl2) (l := l) h2 h1
    rw [ct_fold, if_neg (by rw [h3]; simp)] at this
    exact this
theorem cut_known : Known Try.prog hint 49 (cutP cutC1 cutC2 cutV cutR) := by
  refine known_weak fits cutTab_ok cut_ls ?_
  intro xs T v T1 h
  unfold cutP at h
  split at h
  case h_2 => cases h
  rename_i nl cl z l
  simp only [List.mem_cons, List.not_mem_nil, or_false, Prod.mk.injEq, Bool.true_eq] at h
  refine ⟨noGd_of rfl, 30, ?_⟩
  have hrow : rowB z l = true := by
    rcases h with ⟨h1, _⟩ | ⟨h1, _⟩
    · simp only [cutC1, Bool.and_eq_true] at h1; exact h1.1
    · simp only [cutC2, Bool.and_eq_true] at h1; exact h1.1
  simp only [rowB, Bool.and_eq_true, decide_eq_true_eq] at hrow
  obtain ⟨⟨rfl, hlen⟩, hok⟩ := hrow
  have t1 : (cutC1 1 l = true) ↔ cutOK l = true := by simp [cutC1, rowB, hlen, hok]
  have t2 : (cutC2 1 l = true) ↔ cutOK l = false := by simp [cutC2, rowB, hlen, hok]
  rw [t1, t2] at h
  have ht := cut_all nl cl l getFC getFG smallB padG cloneC ctD1 ctD2 ctG
  have hA : List.take (((l.length : Int)).toNat - 4) (List.drop 4 l) = List.drop 4 l := by
    rw [Int.toNat_natCast]; exact List.take_of_length_le (by simp)
  rw [hA, List.drop_zero] at ht
  have eg : getFG (List.take 4 l) = ((cutN l : Nat) : Int) := rfl
  have hlt : cutN l < 4294967296 := by
    have := numL_lt (toBytes (l.take 4))
    rw [toBytes_len] at this
    have h4 : (l.take 4).length ≤ 4 := by simp; omega
    exact Nat.lt_of_lt_of_le this (Nat.pow_le_pow_right (by decide) h4)
  have hfl := fillN_lt (cutN l)
  rw [eg, wi_nat (by omega)] at ht
  simp only [padG_nat, Int.toNat_natCast, List.drop_zero, Nat.sub_zero] at ht
  rw [show cutN l + fillN (cutN l) - cutN l = fillN (cutN l) by omega] at ht
  have hD : (List.drop 4 l).length = l.length - 4 := by simp
  have hF : List.take (fillN (cutN l)) (List.drop (cutN l) (List.drop 4 l)) = cutF l := rfl
  rw [hF] at ht
  have hFl : cutN l + fillN (cutN l) ≤ l.length - 4 → (cutF l).length = fillN (cutN l) := by
    intro h
    simp only [cutF, List.length_take, List.length_drop]; omega
  have hFo : okB (cutF l) = true := okB_take (okB_drop (okB_drop hok 4) _) _
  have d1 : cutN l + fillN (cutN l) ≤ l.length - 4 → ctD1 (cutF l) ((cutF l).length : Int) 0 = zeroL (cutF l) := by
    intro h
    have := hFl h
    unfold ctD1
    rw [hFo, decide_eq_true (show (cutF l).length ≤ 100000 ∧ ((cutF l).length : Int) = (cutF l).length ∧ (0 : Int) = 0 from ⟨by omega, rfl, rfl⟩)]; rfl
  have d2 : cutN l + fillN (cutN l) ≤ l.length - 4 → ctD2 (cutF l) ((cutF l).length : Int) 0 = !zeroL (cutF l) := by
    intro h
    have := hFl h
    unfold ctD2
    rw [hFo, decide_eq_true (show (cutF l).length ≤ 100000 ∧ ((cutF l).length : Int) = (cutF l).length ∧ (0 : Int) = 0 from ⟨by omega, rfl, rfl⟩)]; rfl
  have hg : getFC (List.take 4 l) = true := by
    simp only [getFC, okB_take hok, Bool.and_true, decide_eq_true_eq, List.length_take]; omega
  rcases h with ⟨h1, rfl, rfl⟩ | ⟨h1, rfl, rfl⟩
  · simp only [cutOK, Bool.and_eq_true, decide_eq_true_eq] at h1
    obtain ⟨⟨k1, k2, k3⟩, k4⟩ := h1
    refine ⟨.tup [.fsl none false 1 (cutV l), .fsl nl (cl && (none : Option IV).isNone && (none : Option IV).isNone) 1 (List.take ((List.drop 4 l).length - (cutN l + fillN (cutN l))) (List.drop (cutN l + fillN (cutN l)) (List.drop 4 l))), .bool true], ?_, ht.trans ?_⟩
    rotate_left
    · (refine bif_stepF (by first | assumption | exact decide_eq_false (by (first | omega | (simp only [true_and, and_true]; omega) | ((simp only [List.length_append, List.length_cons, List.length_nil, List.length_replicate, List.length_map, u8s_len, be_len, roomB_nat, roomB_val, maxLen_val, Nat.mul_one] at *); omega) | (simp only [true_and, and_true]; (simp only [List.length_append, List.length_cons, List.length_nil, List.length_replicate, List.length_map, u8s_len, be_len, roomB_nat, roomB_val, maxLen_val, Nat.mul_one] at *); omega)))) ?_)
      (refine bif_step (by first | assumption | exact decide_eq_true (by (first | omega | (simp only [true_and, and_true]; omega) | ((simp only [List.length_append, List.length_cons, List.length_nil, List.length_replicate, List.length_map, u8s_len, be_len, roomB_nat, roomB_val, maxLen_val, Nat.mul_one] at *); omega) | (simp only [true_and, and_true]; (simp only [List.length_append, List.length_cons, List.length_nil, List.length_replicate, List.length_map, u8s_len, be_len, roomB_nat, roomB_val, maxLen_val, Nat.mul_one] at *); omega)))) ?_)
      refine bif_step hg ?_
      (refine bif_step (by first | assumption | exact decide_eq_true (by (first | omega | (simp only [true_and, and_true]; omega) | ((simp only [List.length_append, List.length_cons, List.length_nil, List.length_replicate, List.length_map, u8s_len, be_len, roomB_nat, roomB_val, maxLen_val, Nat.mul_one] at *); omega) | (simp only [true_and, and_true]; (simp only [List.length_append, List.length_cons, List.length_nil, List.length_replicate, List.length_map, u8s_len, be_len, roomB_nat, roomB_val, maxLen_val, Nat.mul_one] at *); omega)))) ?_)
      refine bif_step (by rw [decide_eq_false (by omega)]; rfl) ?_
      refine bif_step (smallB_t (by omega)) ?_
      refine bif_stepF (by rw [cond_false]; exact decide_eq_false (by omega)) ?_
      refine bif_step (smallB_t (by omega)) ?_
      refine bif_step (decide_eq_true (by omega)) ?_
      refine bif_step ((d1 k3).trans k4) ?_
      refine bif_step (decide_eq_true (by omega)) ?_
      refine bif_step (by simp only [cloneC, decide_eq_true_eq, true_or, true_and, List.length_take]; omega) ?_
      refine bif_step (smallB_t (by omega)) ?_
      refine bif_step (decide_eq_true (by omega)) rfl
    · refine Wk.tup (WkL.cons (Wk.refl _) (WkL.cons (Wk.fsl ?_ (.inl rfl) (by simp) (.inl rfl)) (WkL.cons (Wk.refl _) WkL.nil)))
      exact List.take_of_length_le (by simp only [List.length_drop]; omega)
  · refine ⟨.tup [.fsl (some true) true 0 [], .fsl (some true) true 0 [], .bool false], Wk.refl _, ht.trans ?_⟩
    by_cases k1 : 4 ≤ l.length
    case neg => exact bif_step (decide_eq_true (by omega)) rfl
    (refine bif_stepF (by first | assumption | exact decide_eq_false (by (first | omega | (simp only [true_and, and_true]; omega) | ((simp only [List.length_append, List.length_cons, List.length_nil, List.length_replicate, List.length_map, u8s_len, be_len, roomB_nat, roomB_val, maxLen_val, Nat.mul_one] at *); omega) | (simp only [true_and, and_true]; (simp only [List.length_append, List.length_cons, List.length_nil, List.length_replicate, List.length_map, u8s_len, be_len, roomB_nat, roomB_val, maxLen_val, Nat.mul_one] at *); omega)))) ?_)
    (refine bif_step (by first | assumption | exact decide_eq_true (by (first | omega | (simp only [true_and, and_true]; omega) | ((simp only [List.length_append, List.length_cons, List.length_nil, List.length_replicate, List.length_map, u8s_len, be_len, roomB_nat, roomB_val, maxLen_val, Nat.mul_one] at *); omega) | (simp only [true_and, and_true]; (simp only [List.length_append, List.length_cons, List.length_nil, List.length_replicate, List.length_map, u8s_len, be_len, roomB_nat, roomB_val, maxLen_val, Nat.mul_one] at *); omega)))) ?_)
    refine bif_step hg ?_
    (refine bif_step (by first | assumption | exact decide_eq_true (by (first | omega | (simp only [true_and, and_true]; omega) | ((simp only [List.length_append, List.length_cons, List.length_nil, List.length_replicate, List.length_map, u8s_len, be_len, roomB_nat, roomB_val, maxLen_val, Nat.mul_one] at *); omega) | (simp only [true_and, and_true]; (simp only [List.length_append, List.length_cons, List.length_nil, List.length_replicate, List.length_map, u8s_len, be_len, roomB_nat, roomB_val, maxLen_val, Nat.mul_one] at *); omega)))) ?_)
    by_cases k2 : cutN l ≤ 2048
    case neg => exact bif_stepF (by rw [decide_eq_true (by omega)]; rfl) rfl
    refine bif_step (by rw [decide_eq_false (by omega)]; rfl) ?_
    refine bif_step (smallB_t (by omega)) ?_
    by_cases k3 : cutN l + fillN (cutN l) ≤ l.length - 4
    case neg => exact bif_step (by rw [cond_false]; exact decide_eq_true (by omega)) rfl
    refine bif_stepF (by rw [cond_false]; exact decide_eq_false (by omega)) ?_
    refine bif_step (smallB_t (by omega)) ?_
    refine bif_step (decide_eq_true (by omega)) ?_
    have k4 : zeroL (cutF l) = false := by
      simp only [cutOK, decide_eq_true (show 4 ≤ l.length ∧ cutN l ≤ 2048 ∧ cutN l + fillN (cutN l) ≤ l.length - 4 from ⟨k1, k2, k3⟩), Bool.true_and] at h1
      exact h1
    exact bif_stepF ((d1 k3).trans k4) (bif_step ((d2 k3).trans (by rw [k4]; rfl)) rfl)
end
end Go.Proofs.Ytgbddcdpbgaojaa
