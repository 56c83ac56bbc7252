/- DerThere runs. It bears no condition. -/
import Derived.Test.YtolpgbgmldpneaaDuN
namespace Go.Proofs.Ytolpgbgmldpneaa
open Go Go.Im
set_option linter.unusedVariables false
set_option linter.unusedSimpArgs false
set_option maxRecDepth 20000
noncomputable section

theorem und39 : Try.prog.underlying 39 = some (.slice 70) := by kernel_rfl
theorem und70 : Try.prog.underlying 70 = some (.int .u64) := by kernel_rfl
theorem und9' : Try.prog.underlying 9 = some .string := by kernel_rfl
theorem arg39 {x : IV} (h : ArgT Try.prog 39 x) : ∃ nl cl l, x = .fsl (some nl) cl 1 l ∧ okW l = true ∧ l.length ≤ 140737488351232 := by
  obtain ⟨n, l, h1, h2, _⟩ := h
  obtain ⟨m, nl, cl, es, rfl, rfl, h3, h4, h5, h6⟩ := ty_slice und39 h1
  have hx := pack_leaf (P := Try.prog) (t := 39) (y := .fsl (some nl) cl (Try.prog.cellsOf 70) es) (by kernel_rfl)
  rw [hx] at h2
  cases h2
  refine ⟨nl, cl, es, by rw [show Try.prog.cellsOf 70 = 1 by kernel_rfl], ?_, ?_⟩
  · unfold okW
    rw [List.all_eq_true]
    intro x hx
    obtain ⟨cs, c1, c2, c3⟩ := h6 x hx
    obtain ⟨i, rfl, i1, i2⟩ := ty_int und70 c3
    have := pack_int und70 c1
    subst this
    have r := Go.Im.range_u64
    exact decide_eq_true ⟨by omega, by omega⟩
  · rw [show Try.prog.bytesOf 70 = 8 by kernel_rfl, reach_val] at h4
    omega
theorem cTag_leaf {tg t : Int} {n1 : Option Bool} {c1 : Bool} {b : List UInt8} {n2 : Option Bool} {c2 : Bool} (h : b.length ≤ 90000000) : cTag tg cN (ndV t n1 c1 1 (u8s b) n2 c2 0 []) = true := by
  unfold cTag
  rw [okNd_leaf, cN_leaf h, ndOf_leaf, Bool.or_true, Bool.and_true, Bool.true_and]
  exact decide_eq_true (by show b.length ≤ _; omega)
theorem right_leaf2 {n1 : Option Bool} {c1 : Bool} {b : List UInt8} {n2 : Option Bool} {c2 : Bool} : gRight (ndV 2 n1 c1 1 (u8s b) n2 c2 0 []) = fitsB 2 b := by
  rw [right2 (by rw [ndOf_leaf]; rfl), ndOf_leaf]
  rfl
abbrev tabT' : FuncId → Option SpecF := dtT cI gI (cTag 2 cN) gIv gIe cNat gNat (cTag 2 cN) gNv gNe cSam gSam cDig gTrim cN gRight cTx gTx (cTag 12 cN) gTs gTe
theorem tabT_ok : ∀ f F, tabT' f = some F → Known Try.prog hint f F := tab_cons int_known (tab_cons (iof_known right_known) (tab_cons (nat_known ins_known) (tab_cons (nof_known right_known) (tab_cons sam_known (tab_cons trim_known (tab_cons right_known (tab_cons text_known (tab_cons (tof_known right_known) (tab_cons alive_known tab_nil)))))))))
theorem kN_bytes {ls : List Nat} (ho : okL ls) : (nb (valL ls)).length ≤ 8 * ls.length + 1 := by
  have hV := valL_lt ho
  rw [pow64] at hV
  rw [be_len]
  exact (kN_le (by omega)).2 (by rw [Nat.add_sub_cancel]; omega)
theorem derThere_run (xs : List IV) (hl : xs.length = Try.f8.params.size) (h : ∀ (i : Nat) t, Try.f8.params[i]? = some t → ∃ x, xs[i]? = some x ∧ ArgT Try.prog t x) :
    ∃ k, acall Try.prog hint (ovrOf tabT') k 8 xs [] = some (.bool true, []) := by
  rw [Try.params8] at hl h
  obtain ⟨x0, g0, a0⟩ := h 0 3 rfl
  obtain ⟨x1, g1, a1⟩ := h 1 39 rfl
  obtain ⟨x2, g2, a2⟩ := h 2 9 rfl
  match xs, hl with
  | [y0, y1, y2], _ =>
    simp only [List.getElem?_cons_zero, List.getElem?_cons_succ, Option.some.injEq] at g0 g1 g2
    subst g0 g1 g2
    obtain ⟨a, rfl, r1, r2⟩ := arg_int und3 a0
    obtain ⟨nl, cl, l, rfl, hw, hlen⟩ := arg39 a1
    obtain ⟨s, rfl, hs⟩ := arg_str und9' a2
    have r := Go.Im.range_i64
    rw [r.1] at r1
    rw [r.2] at r2
    have hd : C tabT' 8 [.int .i64 a, .fsl (some nl) cl 1 l, .str s] = _ := dt_tree cI gI (cTag 2 cN) gIv gIe cNat gNat (cTag 2 cN) gNv gNe cSam gSam cDig gTrim cN gRight cTx gTx (cTag 12 cN) gTs gTe a (some nl) cl l s
    refine law_run loops_none (n := 30) (hd.trans ?_)
    by_cases hg : l.length > 100 ∨ s.length > 400
    · refine bif_step ?_ rfl
      rcases hg with hg | hg
      · rw [decide_eq_true (by omega)]; rfl
      · rw [decide_eq_true (p := (s.length : Int) > 400) (by omega)]
        cases decide ((l.length : Int) > 100) <;> rfl
    have hl1 : l.length ≤ 100 := by omega
    have hs1 : s.length ≤ 400 := by omega
    refine bif_stepF (by rw [decide_eq_false (by omega), decide_eq_false (by omega)]; rfl) ?_
    obtain ⟨e, ho⟩ := okW_eq hw
    have hcI : cI a = true := decide_eq_true ⟨r1, r2⟩
    obtain ⟨f1, f2⟩ := int_fits r1 r2
    have hk8 := kI_le a
    have hcn : cNat cl l = true := by unfold cNat; rw [hw, decide_eq_true (by omega)]; rfl
    have hcd : cDig l = true := by unfold cDig; rw [hw, decide_eq_true (by omega)]; rfl
    obtain ⟨n1, n2⟩ := nb_fits (valL (toW l))
    have hkb := kN_bytes ho
    have htw : (toW l).length = l.length := by unfold toW; rw [List.length_map]
    have hbi : (be (kI a) a).length ≤ 90000000 := by rw [be_len]; omega
    have hbn : (nb (valL (toW l))).length ≤ 90000000 := by omega
    have v1 : gIe (ndV 2 none false 1 (gI a) (some true) true 0 []) = 0 := by
      unfold gIe gI
      rw [right_leaf2, f1, ndOf_leaf]
      show (bif true && true then (bif decide (8 < (be (kI a) a).length) then 1 else 0) else 3) = _
      rw [be_len, decide_eq_false (by omega)]
      rfl
    have v2 : gIv (ndV 2 none false 1 (gI a) (some true) true 0 []) = a := by
      unfold gIv gI
      rw [right_leaf2, f1, ndOf_leaf]
      show (bif (true && true) && !decide (8 < (be (kI a) a).length) then sgv (be (kI a) a) else 0) = _
      rw [be_len, decide_eq_false (by omega), f2]
      rfl
    have v3 : gNe (ndV 2 none false 1 (gNat l) (some true) true 0 []) = 0 := by
      unfold gNe gNat
      rw [right_leaf2, n1, ndOf_leaf]
      show (bif true && true then (bif negB (nb (valL (toW l))) then 1 else 0) else 3) = _
      rw [n2]
      rfl
    have v4 : gNv (ndV 2 none false 1 (gNat l) (some true) true 0 []) = w64s (limbs (valL (toW l))) := by
      unfold gNv gNat
      rw [right_leaf2, n1, ndOf_leaf]
      show (bif (true && true) && !negB (nb (valL (toW l))) then w64s (limbs (numL (nb (valL (toW l))))) else []) = _
      rw [n2, num_nb]
      rfl
    have hlim : (limbs (valL (toW l))).length ≤ (toW l).length := by rw [← trimL_eq ho]; exact trimL_le _
    have hcs : cSam (w64s (limbs (valL (toW l)))) (gTrim l) = true := by
      unfold cSam gTrim
      rw [okW_w64s (limbs_ok _), w64s_len, decide_eq_true (by omega)]
      rfl
    have hgs : gSam (w64s (limbs (valL (toW l)))) (gTrim l) = true := by
      unfold gSam gTrim
      exact decide_eq_true rfl
    rw [v1, v2, v3, v4, hgs]
    have c1 : cTag 2 cN (ndV 2 none false 1 (gI a) (some true) true 0 []) = true := cTag_leaf hbi
    have c2 : cTag 2 cN (ndV 2 none false 1 (gNat l) (some true) true 0 []) = true := cTag_leaf hbn
    have c3 : cN (ndV 2 none false 1 (gI a) (some true) true 0 []) = true := cN_leaf hbi
    have c4 : cN (ndV 2 none false 1 (gNat l) (some true) true 0 []) = true := cN_leaf hbn
    have g1 : gRight (ndV 2 none false 1 (gI a) (some true) true 0 []) = true := by unfold gI; rw [right_leaf2, f1]
    have g2 : gRight (ndV 2 none false 1 (gNat l) (some true) true 0 []) = true := by unfold gNat; rw [right_leaf2, n1]
    rw [g1, g2]
    refine bif_step hcI (bif_step c1 (bif_step hcn (bif_step c2 (bif_step ?_ (bif_step hcd (bif_step hcs (bif_step rfl (bif_step hcI (bif_step c3 (bif_step rfl (bif_step hcn (bif_step c4 (bif_stepF rfl (bif_step (decide_eq_true (by omega)) ?_))))))))))))))
    · rw [bne_self_eq_false a]; rfl
    cases hx : gTx s
    · exact bif_step rfl rfl
    · have ck : cTag 12 cN (ndV 12 none false 1 (u8s s) (some true) true 0 []) = true := cTag_leaf (by omega)
      have hr : gRight (ndV 12 none false 1 (u8s s) (some true) true 0 []) = true := by rw [right12, hx]
      refine bif_stepF rfl (bif_step ck ?_)
      have e1 : gTe (ndV 12 none false 1 (u8s s) (some true) true 0 []) = 0 := by unfold gTe; rw [hr, ndOf_leaf]; rfl
      have e2 : gTs (ndV 12 none false 1 (u8s s) (some true) true 0 []) = s := by unfold gTs; rw [hr, ndOf_leaf]; rfl
      simp only [cond_true]
      rw [e1, e2, beq_self_eq_true, beq_self_eq_true]
      rfl
end
end Go.Proofs.Ytolpgbgmldpneaa
