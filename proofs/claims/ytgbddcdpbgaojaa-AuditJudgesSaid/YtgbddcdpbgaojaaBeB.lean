/- AuditMatches and AuditJudges at all arguments. It bears no condition. -/
import Derived.Test.YtgbddcdpbgaojaaBeA
namespace Go.Proofs.Ytgbddcdpbgaojaa
open Go Go.Im
set_option linter.unusedVariables false
set_option linter.unusedSimpArgs false
set_option maxRecDepth 20000
noncomputable section

theorem nthA {out : List (Int × Int)} {i : Nat} (h : i < out.length) : nthD (rowA out) ((i : Int)).toNat = .int .i64 out[i].1 := by
  rw [nthD_at (by simpa [rowA] using h)]; simp [rowA]
theorem nthB {out : List (Int × Int)} {i : Nat} (h : i < out.length) : nthD (rowB2 out) ((i : Int)).toNat = .int .i64 out[i].2 := by
  rw [nthD_at (by simpa [rowB2] using h)]; simp [rowB2]
theorem lenA (out : List (Int × Int)) : (rowA out).length = out.length := by simp [rowA]
theorem lenB (out : List (Int × Int)) : (rowB2 out).length = out.length := by simp [rowB2]
/-! ### What is said, by the document -/
abbrev T8 : FuncId → Option SpecF := j8T cM gRa gRb cT gTa gTe
theorem T8_ok : ∀ f F, T8 f = some F → Known Try.prog hint f F := tab_cons rmatch_known (tab_cons rtheft_known tab_nil)
theorem j8_runs {l fs : List IV} {out : List (Int × Int)} (hT : ∀ t, cT l t fs = true) (hl : out.length ≤ 1000) {nl nl' : Option Bool} {cl cl' : Bool} :
    EachOK Try.prog hint (acall Try.prog hint (ovrOf T8)) 0 (hint.kp 18) (loopAt Try.prog 18 122) (Sx 18 (j8V nl cl l nl' cl' fs (rowA out) (rowB2 out) ((0 : Nat) : Int)) [.row 0 false 3 (((out.take 0).map (judge1 (evs l) (fcs fs))).map ivV)]) (.exit 0)
      (fun _ : Unit => Sx 18 (j8V nl cl l nl' cl' fs (rowA out) (rowB2 out) (out.length : Int)) [.row 0 false 3 (((out.take out.length).map (judge1 (evs l) (fcs fs))).map ivV)]) (foldE (fun (_ : Nat) (_ : Unit) (_ : Int × Int) => (Sum.inl () : Unit ⊕ (Ex × St))) 0 () out) := by
  refine runs_each (X := Unit) (l := out) (n := 30) (ls := fun _ _ => none) loops_none inner0 (fun i _ => Sx 18 (j8V nl cl l nl' cl' fs (rowA out) (rowB2 out) (i : Int)) [.row 0 false 3 (((out.take i).map (judge1 (evs l) (fcs fs))).map ivV)]) _
    (fun _ _ => True) (by simp) ?_ ?_ out.length 0 () (by omega) trivial
  · intro i _ hi _
    refine .inl ⟨(), rfl, ?_, trivial⟩
    have ht := j8_in cM gRa gRb cT gTa gTe nl cl l nl' cl' fs (rowA out) (rowB2 out) (((out.take i).map (judge1 (evs l) (fcs fs))).map ivV) i
    have e : ((out.take (i + 1)).map (judge1 (evs l) (fcs fs))).map ivV = ((out.take i).map (judge1 (evs l) (fcs fs))).map ivV ++ [ivV (judge1 (evs l) (fcs fs) out[i])] := by
      rw [List.take_succ_eq_append_getElem hi, List.map_append, List.map_append]
      rfl
    rw [e]
    have hlt : (((out.take i).map (judge1 (evs l) (fcs fs))).map ivV).length = i := by rw [List.length_map, List.length_map, List.length_take]; omega
    have hroom : ∀ x : IV, ((((out.take i).map (judge1 (evs l) (fcs fs))).map ivV).length + [x].length) * 24 ≤ roomB ∧ (((out.take i).map (judge1 (evs l) (fcs fs))).map ivV).length + [x].length ≤ maxLen := fun x => by
      rw [hlt, roomB_nat, maxLen_val]
      simp only [List.length_cons, List.length_nil]
      omega
    generalize hrow : ((out.take i).map (judge1 (evs l) (fcs fs))).map ivV = row at *
    rw [nthA hi, nthB hi, cell_int, cell_int, intOf_int, intOf_int, lenA, lenB, wadd1 (by omega)] at ht
    generalize out[i] = m at *
    have cA1 : (1 : Nat) = 1 ∧ (0 : Int) ≤ (i : Int) ∧ (i : Int) < (out.length : Int) := ⟨rfl, by omega, by omega⟩
    replace ht := fun r k => ht.trans (bif_step (r := r) (decide_eq_true cA1.2.2) (bif_step (decide_eq_true cA1) (bif_step isOf_int (bif_step (decide_eq_true cA1) (bif_step isOf_int (bif_step (decide_eq_true cA1) (bif_step isOf_int k)))))))
    by_cases h2 : m.2 ≥ 0
    · have e1 : judge1 (evs l) (fcs fs) m = (1, m.1, m.2) := by unfold judge1; rw [if_pos h2]
      rw [e1]
      exact ht _ (bif_stepF (decide_eq_false (by omega)) (bif_step (decide_eq_true (hroom _)) rfl))
    · by_cases h3 : (theft (evs l) m.1 (fcs fs)).2 = 0
      · have e1 : judge1 (evs l) (fcs fs) m = (2, m.1, gTa l m.1 fs) := by unfold judge1; rw [if_neg h2, if_pos h3]; rfl
        rw [e1]
        exact ht _ (bif_step (decide_eq_true (by omega)) (bif_step (decide_eq_true cA1) (bif_step isOf_int (bif_step (hT _) (bif_step (decide_eq_true cA1) (bif_step isOf_int (bif_stepF (bne_eq_false_iff_eq.2 h3) (bif_step (decide_eq_true (hroom _)) rfl))))))))
      · have e1 : judge1 (evs l) (fcs fs) m = (3, m.1, -1) := by unfold judge1; rw [if_neg h2, if_neg h3]
        rw [e1]
        exact ht _ (bif_step (decide_eq_true (by omega)) (bif_step (decide_eq_true cA1) (bif_step isOf_int (bif_step (hT _) (bif_step (decide_eq_true cA1) (bif_step isOf_int (bif_step (bne_iff_ne.2 h3) (bif_step (decide_eq_true cA1) (bif_step isOf_int (bif_step (decide_eq_true (hroom _)) rfl))))))))))
  · intro _ _
    have ht := j8_in cM gRa gRb cT gTa gTe nl cl l nl' cl' fs (rowA out) (rowB2 out) (((out.take out.length).map (judge1 (evs l) (fcs fs))).map ivV) out.length
    exact ht.trans (bif_stepF (decide_eq_false (by rw [lenA]; omega)) rfl)
theorem rjudge_known : Known Try.prog hint 18 (juP cJu gJ) := by
  refine known_frz fits fun us T v T1 h => ?_
  unfold juP at h
  split at h
  case h_2 => cases h
  rename_i nl cl l nl' cl' fs
  simp only [List.mem_cons, List.not_mem_nil, or_false, Prod.mk.injEq, Bool.true_eq, cJu, Bool.and_eq_true] at h
  obtain ⟨⟨h1, h2⟩, rfl, rfl⟩ := h
  refine ⟨rfl, rfl, [[.fsl nl cl 5 l, .fsl nl' cl' 2 fs]], by simp, Splits.self _, fun ys hy => ?_⟩
  rw [List.mem_singleton] at hy
  subst hy
  have hml := mat_len (evs l)
  rw [List.length_map] at hml
  have hc := h1
  unfold cM at hc
  simp only [Bool.and_eq_true, decide_eq_true_eq] at hc
  have q := j8_runs (l := l) (fs := fs) (out := mat (evs l)) (fun _ => h2) (by omega) (nl := nl) (cl := cl) (nl' := nl') (cl' := cl')
  rw [foldE_inl (g := fun (_ : Unit) (_ : Int × Int) => ()) (fun _ _ _ => rfl), List.take_length] at q
  have hls : LoopsOK Try.prog hint (acall Try.prog hint (ovrOf T8)) (ltab [(18, 122, LF 18 0 (oneF (j8V nl cl l nl' cl' fs (gRa l) (gRb l) 0) [.row 0 false 3 []] (.exit 0) (j8V nl cl l nl' cl' fs (gRa l) (gRb l) ((gRa l).length : Int)) [.row 0 false 3 (gJ l fs)]))]) := by
    refine ltab_cons (by kernel_rfl) (loopF_ok fun vs bx e vs' bx' hm => ?_) ltab_nil
    obtain ⟨rfl, rfl, rfl, rfl, rfl⟩ := oneF_mem hm
    rw [show (gRa l).length = (mat (evs l)).length from lenA _]
    exact q
  exact ⟨noGd_of rfl, T8, _, T8_ok, hls, 30, .osl 0 0, [.row 0 false 3 (gJ l fs)], .fsl none false 3 (gJ l fs), [0], (j8_call cM gRa gRb cT gTa gTe nl cl l nl' cl' fs (gJ l fs)).trans (bif_step h1 (bif_step sameS_t rfl)), rfl, Wk.refl _⟩

/-! ### AuditMatches -/
abbrev tabM' : FuncId → Option SpecF := tabM cE gLong cM gM cO gO gRa gRb cT gTa gTe cF gF
theorem tabM_ok : ∀ f F, tabM' f = some F → Known Try.prog hint f F := tab_cons long_known (tab_cons alive_known (tab_cons match_known (tab_cons own_known (tab_cons rmatch_known (tab_cons th_known (tab_cons faces_known (tab_cons rtheft_known tab_nil)))))))
theorem lm_runs {out : List (Int × Int)} (hl : out.length ≤ 1000) {nl : Option Bool} {cl : Bool} {l : List IV} {told : Int} {nl' : Option Bool} {cl' : Bool} {fs : List IV} :
    EachOK Try.prog hint (acall Try.prog hint (ovrOf tabM')) 0 (hint.kp 3) (loopAt Try.prog 3 506) (Sx 3 (lmV nl cl l told nl' cl' fs (out.map ivM) (rowA out) (rowB2 out) ((0 : Nat) : Int)) []) (.exit 0)
      (fun _ : Unit => Sx 3 (lmV nl cl l told nl' cl' fs (out.map ivM) (rowA out) (rowB2 out) (out.length : Int)) []) (foldE (fun (_ : Nat) (_ : Unit) (_ : Int × Int) => (Sum.inl () : Unit ⊕ (Ex × St))) 0 () out) := by
  refine runs_each (X := Unit) (l := out) (n := 30) (ls := fun _ _ => none) loops_none inner0 (fun i _ => Sx 3 (lmV nl cl l told nl' cl' fs (out.map ivM) (rowA out) (rowB2 out) (i : Int)) []) _
    (fun _ _ => True) (by simp) ?_ ?_ out.length 0 () (by omega) trivial
  · intro i _ hi _
    refine .inl ⟨(), rfl, ?_, trivial⟩
    have ht := lm_in cE gLong cM gM cO gO gRa gRb cT gTa gTe cF gF nl cl l told nl' cl' fs (out.map ivM) (rowA out) (rowB2 out) i
    have q0 : Im.intOf (nthD (List.drop 0 (IV.agg [.int .i64 out[i].1, .int .i64 out[i].2]).cells) 0) = out[i].1 := Eq.trans rfl rfl
    have q1 : Im.intOf (nthD (List.drop 1 (IV.agg [.int .i64 out[i].1, .int .i64 out[i].2]).cells) 0) = out[i].2 := Eq.trans rfl rfl
    rw [nthM hi, nthA hi, nthB hi, cell_int, cell_int, intOf_int, intOf_int, lenA, lenB, q0, q1, wadd1 (by omega)] at ht
    have c1 : (1 : Nat) = 1 ∧ (0 : Int) ≤ (i : Int) ∧ (i : Int) < (out.length : Int) := ⟨rfl, by omega, by omega⟩
    have c2 : (2 : Nat) = 2 ∧ (0 : Int) ≤ (i : Int) ∧ (i : Int) < ((out.map ivM).length : Int) := ⟨rfl, by omega, by rw [List.length_map]; omega⟩
    exact ht.trans (bif_step (decide_eq_true c2.2.2) (bif_step (decide_eq_true c2) (bif_step rfl (bif_step (decide_eq_true c1) (bif_step isOf_int (bif_step (by simp) (bif_step (decide_eq_true c2) (bif_step rfl (bif_step (decide_eq_true c1) (bif_step isOf_int (bif_stepF (by simp) rfl)))))))))))
  · intro _ _
    have ht := lm_in cE gLong cM gM cO gO gRa gRb cT gTa gTe cF gF nl cl l told nl' cl' fs (out.map ivM) (rowA out) (rowB2 out) out.length
    exact ht.trans (bif_stepF (decide_eq_false (by rw [List.length_map]; omega)) rfl)
theorem gT_O (l fs : List IV) (t : Int) : gTa (gO l) t (gF fs) = gTa l t fs ∧ gTe (gO l) t (gF fs) = gTe l t fs := by
  unfold gTa gTe
  have e1 : evs (gO l) = evs l := evs_F _
  have e2 : fcs (gF fs) = fcs fs := fcs_F _
  rw [e1, e2]
  exact ⟨rfl, rfl⟩
theorem cT_of {l fs : List IV} (ha : l.all isEv = true) (hl : l.length ≤ 1000) (hs : (evs l).all shortE = true) (hf : fs.all isFc = true) (hfl : fs.length ≤ 1000) (t : Int) : cT l t fs = true := by
  unfold cT
  rw [ha, hs, hf, decide_eq_true hl, decide_eq_true hfl]
  rfl
theorem cM_of {l : List IV} (ha : l.all isEv = true) (hl : l.length ≤ 1000) : cM l = true := by unfold cM; rw [ha, decide_eq_true hl]; rfl
theorem auditMatches_run (xs : List IV) (hl : xs.length = Try.f3.params.size) (h : ∀ (i : Nat) t, Try.f3.params[i]? = some t → ∃ x, xs[i]? = some x ∧ ArgT Try.prog t x) :
    ∃ k, acall Try.prog hint (ovrOf tabM') k 3 xs [] = some (.bool true, []) := by
  rw [Try.params3] at hl h
  obtain ⟨x0, g0, a0⟩ := h 0 22 rfl
  obtain ⟨x1, g1, a1⟩ := h 1 3 rfl
  obtain ⟨x2, g2, a2⟩ := h 2 23 rfl
  match xs, hl with
  | [y0, y1, y2], _ =>
    simp only [List.getElem?_cons_zero, List.getElem?_cons_succ, Option.some.injEq] at g0 g1 g2
    subst g0 g1 g2
    obtain ⟨nl, cl, l, rfl, ha, _⟩ := arg22 a0
    obtain ⟨n, rfl, _⟩ := arg_int Try.underlying3 a1
    obtain ⟨nl', cl', fs, rfl, hf, _⟩ := arg23 a2
    cases hg : (bif gLong l then true else decide ((fs.length : Int) > (20 : Int)))
    · have hlong : gLong l = false := by
        cases h0 : gLong l
        · rfl
        · rw [h0] at hg; cases hg
      have hg' := hg
      rw [hlong, cond_false] at hg'
      have hfl := of_decide_eq_false hg'
      have hlen := long_len hlong
      rw [List.length_map] at hlen
      have hs := long_short hlong
      have hml := mat_len (evs l)
      rw [List.length_map] at hml
      have hbe := lm_call cE gLong cM gM cO gO gRa gRb cT gTa gTe cF gF nl cl l n nl' cl' fs
      obtain ⟨t1, t2⟩ := gT_O l fs n
      rw [gM_O l, t1, t2] at hbe
      have q := lm_runs (out := mat (evs l)) (by omega) (nl := nl) (cl := cl) (l := l) (told := n) (nl' := nl') (cl' := cl') (fs := fs)
      rw [foldE_inl (g := fun (_ : Unit) (_ : Int × Int) => ()) (fun _ _ _ => rfl)] at q
      have hls : LoopsOK Try.prog hint (acall Try.prog hint (ovrOf tabM')) (ltab [(3, 506, LF 3 0 (oneF (lmV nl cl l n nl' cl' fs ((mat (evs l)).map ivM) (gRa l) (gRb l) 0) [] (.exit 0) (lmV nl cl l n nl' cl' fs ((mat (evs l)).map ivM) (gRa l) (gRb l) (((mat (evs l)).map ivM).length : Int)) []))]) := by
        refine ltab_cons (by kernel_rfl) (loopF_ok fun vs bx e vs' bx' hm => ?_) ltab_nil
        obtain ⟨rfl, rfl, rfl, rfl, rfl⟩ := oneF_mem hm
        rw [List.length_map]
        exact q
      have hcF : cF fs = true := by unfold cF; rw [hf, decide_eq_true (by omega)]; rfl
      refine law_run hls (n := 30) (hbe.trans (bif_step ha (bif_stepF hg (bif_step (cO_of ha (by omega)) (bif_step (cM_O ha (by omega)) (bif_step (cM_of ha (by omega)) (bif_stepF ?_ (bif_step sameS_t (bif_step (cO_of ha (by omega)) (bif_step hcF (bif_step (cT_O ha (by omega) hs hf (by omega) n) (bif_step (cT_of ha (by omega) hs hf (by omega) n) ?_))))))))))))
      · rw [List.length_map, show (gRa l).length = (mat (evs l)).length from lenA _]
        simp
      · rw [beq_self_eq_true, beq_self_eq_true]; rfl
    · exact law_run (ls := ltab [(3, 506, noL)]) (n := 30) (ltab_cons (by kernel_rfl) (fun p s e s' h => by cases h) ltab_nil) ((lm_long cE gLong cM gM cO gO gRa gRb cT gTa gTe cF gF nl cl l n nl' cl' fs).trans (bif_step ha (bif_step hg rfl)))

/-! ### AuditJudges -/
abbrev tabL' : FuncId → Option SpecF := tabL cE gLong cO gO cF gF cJu gJ gJ cM gP
theorem tabL_ok : ∀ f F, tabL' f = some F → Known Try.prog hint f F := tab_cons long_known (tab_cons alive_known (tab_cons own_known (tab_cons faces_known (tab_cons judge_known (tab_cons rjudge_known (tab_cons proper_known tab_nil))))))
theorem lj_runs {vs : List (Int × Int × Int)} (hl : vs.length ≤ 1000) {nl : Option Bool} {cl : Bool} {l : List IV} :
    EachOK Try.prog hint (acall Try.prog hint (ovrOf tabL')) 0 (hint.kp 4) (loopAt Try.prog 4 1018) (Sx 4 (ljV nl cl l (vs.map ivV) (vs.map ivV) true ((0 : Nat) : Int)) []) (.exit 0)
      (fun pr : Bool => Sx 4 (ljV nl cl l (vs.map ivV) (vs.map ivV) pr (vs.length : Int)) []) (foldE (fun (_ : Nat) (pr : Bool) (v : Int × Int × Int) => (Sum.inl (pr && v.1 == (1 : Int)) : Bool ⊕ (Ex × St))) 0 true vs) := by
  refine runs_each (X := Bool) (l := vs) (n := 30) (ls := fun _ _ => none) loops_none inner0 (fun i pr => Sx 4 (ljV nl cl l (vs.map ivV) (vs.map ivV) pr (i : Int)) []) _
    (fun _ _ => True) (by simp) ?_ ?_ vs.length 0 true (by omega) trivial
  · intro i pr hi _
    refine .inl ⟨_, rfl, ?_, trivial⟩
    have ht := lj_in cE gLong cO gO cF gF cJu gJ gJ cM gP nl cl l (vs.map ivV) (vs.map ivV) pr i
    rw [nthV hi, wadd1 (by omega)] at ht
    generalize vs[i] = v at *
    have q0 : Im.intOf (nthD (IV.agg [.int .i64 v.1, .int .i64 v.2.1, .int .i64 v.2.2]).cells 0) = v.1 := Eq.trans rfl rfl
    have q1 : Im.intOf (nthD (IV.agg [.int .i64 v.1, .int .i64 v.2.1, .int .i64 v.2.2]).cells 1) = v.2.1 := Eq.trans rfl rfl
    have q2 : Im.intOf (nthD (IV.agg [.int .i64 v.1, .int .i64 v.2.1, .int .i64 v.2.2]).cells 2) = v.2.2 := Eq.trans rfl rfl
    have r0 : Im.intOf (nthD (List.drop 0 (IV.agg [.int .i64 v.1, .int .i64 v.2.1, .int .i64 v.2.2]).cells) 0) = v.1 := Eq.trans rfl rfl
    have r1 : Im.intOf (nthD (List.drop 1 (IV.agg [.int .i64 v.1, .int .i64 v.2.1, .int .i64 v.2.2]).cells) 0) = v.2.1 := Eq.trans rfl rfl
    have r2 : Im.intOf (nthD (List.drop 2 (IV.agg [.int .i64 v.1, .int .i64 v.2.1, .int .i64 v.2.2]).cells) 0) = v.2.2 := Eq.trans rfl rfl
    rw [q0, q1, q2, r0, r1, r2] at ht
    have c3 : (3 : Nat) = 3 ∧ (0 : Int) ≤ (i : Int) ∧ (i : Int) < ((vs.map ivV).length : Int) := ⟨rfl, by omega, by rw [List.length_map]; omega⟩
    replace ht := fun r k => ht.trans (bif_step (r := r) (decide_eq_true c3.2.2) (bif_step (decide_eq_true c3) (bif_step rfl (bif_step (decide_eq_true c3) (bif_step rfl (bif_step (decide_eq_true c3) (bif_step rfl (bif_step (decide_eq_true c3) (bif_step rfl (bif_stepF (by simp) k))))))))))
    cases pr
    · exact ht _ (bif_stepF rfl rfl)
    · exact ht _ (bif_step rfl (bif_step (decide_eq_true c3) (bif_step rfl rfl)))
  · intro pr _
    have ht := lj_in cE gLong cO gO cF gF cJu gJ gJ cM gP nl cl l (vs.map ivV) (vs.map ivV) pr vs.length
    exact ht.trans (bif_stepF (decide_eq_false (by rw [List.length_map]; omega)) rfl)
theorem and_all (vs : List (Int × Int × Int)) : ∀ b, vs.foldl (fun pr v => pr && v.1 == (1 : Int)) b = (b && vs.all fun v => v.1 == (1 : Int)) := by
  induction vs with
  | nil => intro b; simp
  | cons v vs ih => intro b; rw [List.foldl_cons, ih, List.all_cons, Bool.and_assoc]
theorem proper_judge (es : List Ev) (fs : List Fc) : (judge es fs).all (fun v => v.1 == (1 : Int)) = !pxB (mat es) := by
  unfold judge pxB
  rw [List.all_map, List.all_eq_not_any_not]
  congr 1
  congr 1
  funext m
  simp only [Function.comp]
  unfold judge1
  by_cases h : m.2 ≥ 0
  · rw [if_pos h, decide_eq_false (by omega)]; rfl
  · rw [if_neg h, decide_eq_true (by omega)]
    split <;> rfl
theorem auditJudges_run (xs : List IV) (hl : xs.length = Try.f4.params.size) (h : ∀ (i : Nat) t, Try.f4.params[i]? = some t → ∃ x, xs[i]? = some x ∧ ArgT Try.prog t x) :
    ∃ k, acall Try.prog hint (ovrOf tabL') k 4 xs [] = some (.bool true, []) := by
  rw [Try.params4] at hl h
  obtain ⟨x0, g0, a0⟩ := h 0 22 rfl
  obtain ⟨x2, g2, a2⟩ := h 1 23 rfl
  match xs, hl with
  | [y0, y2], _ =>
    simp only [List.getElem?_cons_zero, List.getElem?_cons_succ, Option.some.injEq] at g0 g2
    subst g0 g2
    obtain ⟨nl, cl, l, rfl, ha, _⟩ := arg22 a0
    obtain ⟨nl', cl', fs, rfl, hf, _⟩ := arg23 a2
    cases hg : (bif gLong l then true else decide ((fs.length : Int) > (20 : Int)))
    · have hlong : gLong l = false := by
        cases h0 : gLong l
        · rfl
        · rw [h0] at hg; cases hg
      have hg' := hg
      rw [hlong, cond_false] at hg'
      have hfl := of_decide_eq_false hg'
      have hlen := long_len hlong
      rw [List.length_map] at hlen
      have hs := long_short hlong
      have hml := mat_len (evs l)
      rw [List.length_map] at hml
      have hjl := judge_len (evs l) (fcs fs)
      rw [List.length_map] at hjl
      have hpr := proper_judge (evs l) (fcs fs)
      have hbe := lj_call cE gLong cO gO cF gF cJu gJ gJ cM gP nl cl l nl' cl' fs
      rw [gJ_O l fs] at hbe
      have hJ : gJ l fs = (judge (evs l) (fcs fs)).map ivV := rfl
      rw [hJ] at hbe
      have hP : gP (gO l) = !pxB (mat (evs l)) := by
        unfold gP
        rw [show evs (gO l) = evs l from evs_F _]
      rw [hP, ← hpr] at hbe
      generalize judge (evs l) (fcs fs) = vs at *
      have q := lj_runs (vs := vs) (by omega) (nl := nl) (cl := cl) (l := l)
      rw [foldE_inl (g := fun (pr : Bool) (v : Int × Int × Int) => pr && v.1 == (1 : Int)) (fun _ _ _ => rfl), and_all, Bool.true_and] at q
      have hls : LoopsOK Try.prog hint (acall Try.prog hint (ovrOf tabL')) (ltab [(4, 1018, LF 4 0 (oneF (ljV nl cl l (vs.map ivV) (vs.map ivV) true 0) [] (.exit 0) (ljV nl cl l (vs.map ivV) (vs.map ivV) (vs.all fun v => v.1 == (1 : Int)) ((vs.map ivV).length : Int)) []))]) := by
        refine ltab_cons (by kernel_rfl) (loopF_ok fun vs bx e vs' bx' hm => ?_) ltab_nil
        obtain ⟨rfl, rfl, rfl, rfl, rfl⟩ := oneF_mem hm
        rw [List.length_map]
        exact q
      have hcF : cF fs = true := by unfold cF; rw [hf, decide_eq_true (by omega)]; rfl
      have hc2 : cJu l fs = true := by unfold cJu; rw [cM_of ha (by omega), cT_of ha (by omega) hs hf (by omega)]; rfl
      refine law_run hls (n := 30) ((hbe _).trans (bif_step ha (bif_stepF hg (bif_step (cO_of ha (by omega)) (bif_step hcF (bif_step (cJu_O ha (by omega) hs hf (by omega)) (bif_step hc2 (bif_stepF ?_ (bif_step sameS_t (bif_step (cO_of ha (by omega)) (bif_step (cM_O ha (by omega)) ?_)))))))))))
      · simp
      · rw [beq_self_eq_true]; rfl
    · exact law_run (ls := ltab [(4, 1018, noL)]) (n := 30) (ltab_cons (by kernel_rfl) (fun p s e s' h => by cases h) ltab_nil) ((lj_long cE gLong cO gO cF gF cJu gJ gJ cM gP nl cl l nl' cl' fs).trans (bif_step ha (bif_step hg rfl)))
end
end Go.Proofs.Ytgbddcdpbgaojaa
