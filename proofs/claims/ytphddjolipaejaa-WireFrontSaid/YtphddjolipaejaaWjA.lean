/- What is written and read of a packet, and what the laws' arguments are: what is proved of the given program. It bears no condition. -/
import Derived.Test.YtphddjolipaejaaWiZ
namespace Go.Proofs.Ytphddjolipaejaa
open Go Go.Im
set_option linter.unusedVariables false
set_option linter.unusedSimpArgs false
noncomputable section

/-! ### Right and Write, whatever the sum's length -/
def PK.fine2 (p : PK) : Bool := p.ok && decide (p.es.length ≤ 20 ∧ ∀ v ∈ p.xs, wt v ≤ 20000)
theorem fine2_iff {p : PK} (h : p.fine2 = true) : p.ok = true ∧ p.es.length ≤ 20 ∧ ∀ v ∈ p.xs, wt v ≤ 20000 := by
  simpa only [PK.fine2, Bool.and_eq_true, decide_eq_true_eq] using h
theorem fine_2 {p : PK} (h : p.fine = true) : p.fine2 = true := by
  obtain ⟨h1, h2, _, h4⟩ := fine_iff h
  simp only [PK.fine2, Bool.and_eq_true, decide_eq_true_eq]
  exact ⟨h1, h2, h4⟩
theorem right_known2 : Known Try.prog hint 12 (pkP PK.fine2 fun p => .int .i64 (rightG p)) := by
  refine known_of fits (spec := rtTab) rtTab_ok rt_ls ?_
  intro xs T v T1 h
  obtain ⟨p, rfl, rfl, hp, rfl, rfl⟩ := pkP_mem h
  obtain ⟨h1, h2, h4⟩ := fine2_iff hp
  have hk := pok_iff.1 h1
  have h3 : p.su.length ≤ 140737488355328 := hk.1.2.2.2
  refine ⟨30, (rt_all p rtD rtB rtN xlight fun v => ((xsize v : Nat) : Int)).trans ?_⟩
  rw [head_bif]
  have hd : rtD p.headOK 48 p.z1 p.es (p.es.length : Int) 0 = true := by
    simp only [rtD, Bool.and_eq_true, decide_eq_true_eq]
    exact ⟨⟨trivial, trivial, trivial, h2, hk.1.1, h4⟩, hk.2.2⟩
  refine bif_step hd ?_
  have hs : sizes p.xs ≤ 20 * 20030 := by
    have : ∀ vs : List XV, (∀ v ∈ vs, wt v ≤ 20000) → sizes vs ≤ vs.length * 20030 := by
      intro vs hv
      induction vs with
      | nil => simp [sizes]
      | cons v vs ih =>
        have := xsize_le (hv v (List.mem_cons_self ..))
        have := ih (fun w hw => hv w (List.mem_cons_of_mem _ hw))
        rw [sizes_cons, List.length_cons, Nat.add_mul]; omega
    have := this p.xs h4
    rw [p.xs_len] at this
    exact Nat.le_trans this (Nat.mul_le_mul_right _ h2)
  have eb : rtB p.headOK p.es = (p.headOK && p.xs.all goodX) := rfl
  have en : rtN 48 p.es = ((48 + sizes p.xs : Nat) : Int) := rfl
  rw [eb, en]
  unfold rightG PK.right PK.macOK PK.tot PK.macN
  revert hs
  generalize p.headOK = hb
  generalize p.xs.all goodX = gb
  generalize sizes p.xs = ss
  intro hs
  cases hh : p.ha
  · refine bif_stepF rfl (fin3 ?_)
    simp only [cond_false, Bool.cond_false_right, Bool.cond_true_left]
    rw [Bool.eq_iff_iff]
    cases hb <;> cases gb <;> simp [-List.length_eq_zero_iff] <;> omega
  · refine bif_step rfl (fin3 ?_)
    simp only [cond_true, Bool.cond_false_right, Bool.cond_true_left]
    rw [show (4 : Int) = ((4 : Nat) : Int) from rfl, wadd (by omega), wadd (by omega), Bool.eq_iff_iff]
    cases hb <;> cases gb <;> simp [-List.length_eq_zero_iff] <;> omega


theorem known_or {f : FuncId} {F F1 F2 : SpecF} (k1 : Known Try.prog hint f F1) (k2 : Known Try.prog hint f F2) (h : ∀ xs T x, (F xs T).find? (·.1) = some x → (F1 xs T).find? (·.1) = some x ∨ (F2 xs T).find? (·.1) = some x) : Known Try.prog hint f F := by
  intro g xs T r T1 hr
  simp only at hr
  split at hr
  · rename_i hg
    subst hg
    obtain ⟨x, hF, e⟩ := Option.map_eq_some_iff.1 hr
    rcases h _ _ _ hF with h | h
    · exact k1 g xs T r T1 (by simp only [if_true]; rw [h]; exact congrArg some e)
    · exact k2 g xs T r T1 (by simp only [if_true]; rw [h]; exact congrArg some e)
  · cases hr
abbrev wTab2 : FuncId → Option SpecF := tab [(12, pkP PK.fine2 fun p => .int .i64 (rightG p)), (18, putP putFC putFG), (19, bitF), (20, xP .i64 xlight fun v => ((xsize v : Nat) : Int)), (21, dataP dataFC dataFG)]
theorem wTab2_ok : ∀ f F, wTab2 f = some F → Known Try.prog hint f F := tab_cons right_known2 (tab_cons put_known (tab_cons bit_known (tab_cons size_known (tab_cons data_known tab_nil))))
def noD (_z : Nat) (_es : List IV) (_len _i : Int) (_l : List IV) : Bool := false
theorem no_ls : LoopsOK Try.prog hint (acall Try.prog hint (ovrOf wTab2)) (ltab [(10, 506, LF 10 0 (wL noD wG))]) := by
  refine ltab_cons (by kernel_rfl) (loopF_ok ?_) ltab_nil
  intro vs bx e vs' bx' h
  unfold wL at h
  split at h
  · split at h
    · simp [noD] at h
    · cases h
  · cases h
theorem write_not : Known Try.prog hint 10 (wrP (fun _ => false) (fun p => p.fine2 && !p.right) writeL) := by
  refine known_of fits (spec := wTab2) wTab2_ok no_ls ?_
  intro xs T v T1 h
  obtain ⟨p, rfl, rfl, h0⟩ := wrP_mem h
  refine ⟨30, (w_all p noD wG PK.fine2 rightG xlight (fun v => ((xsize v : Nat) : Int)) putFC putFG dataFC dataFG).trans ?_⟩
  rcases h0 with ⟨h1, rfl, rfl⟩ | ⟨h1, rfl, rfl⟩
  · cases h1
  · simp only [Bool.and_eq_true, Bool.not_eq_true'] at h1
    have e0 : rightG p = 3 := by simp [rightG, h1.2]
    refine bif_step h1.1 (bif_step (by rw [e0]; rfl) ?_)
    rw [e0]
theorem write_known2 : Known Try.prog hint 10 (wrP (fun p => p.fine && p.right) (fun p => p.fine2 && !p.right) writeL) := by
  refine known_or write_known write_not fun xs T x h => ?_
  unfold wrP at h ⊢
  split at h
  · rename_i le ve mo st po pr de di ri rf og rc xm n1 c1 z1 es ha ky n2 c2 z2 su
    revert h
    generalize (⟨le, ve, mo, st, po, pr, de, di, ri, rf, og, rc, xm, n1, c1, z1, es, ha, ky, n2, c2, z2, su⟩ : PK) = p
    intro h
    dsimp only
    cases h1 : (p.fine && p.right)
    · right
      simpa [List.find?_cons, h1] using h
    · left
      simpa [List.find?_cons, h1] using h
  · cases h

/-! ### What reading answers -/
theorem read_known : Known Try.prog hint 15 (rwP rowB rdPk rdFa rdFc) := by
  refine known_of fits (spec := tab [(27, rdP rowB rdPk rdK rdFa rdFc)]) (tab_cons rd_known tab_nil) loops_none ?_
  intro xs T v T1 h
  unfold rwP at h
  split at h
  case h_2 => cases h
  rename_i nl cl z l
  simp only [List.mem_cons, List.not_mem_nil, or_false, Prod.mk.injEq, Bool.true_eq] at h
  obtain ⟨h1, rfl, rfl⟩ := h
  exact ⟨30, (rdw_all nl cl z l rowB rdPk rdK rdFa rdFc).trans (bif_step h1 rfl)⟩
def frontL (l : List IV) : List IV := l.take (rdK l).toNat
theorem rdA_code {l : List IV} {x : Int × Int} (h : rdA l = some x) : x.2 ≠ 0 ∧ 0 ≤ x.1 ∧ (okB l = true → x.1 ≤ l.length) := by
  unfold rdA at h
  by_cases c1 : 8192 < l.length
  · rw [decide_eq_true c1] at h; cases h; exact ⟨by decide, by decide, fun _ => by omega⟩
  rw [decide_eq_false c1, cond_false] at h
  by_cases c2 : l.length < 48
  · rw [decide_eq_true c2] at h; cases h; exact ⟨by simp, by simp, fun _ => by simp⟩
  rw [decide_eq_false c2, cond_false] at h
  have hN : rdN l ≤ l.length := rdL_le 9 48 [] (by omega)
  cases c3 : headBad l
  case true => rw [c3] at h; cases h; exact ⟨by decide, by decide, fun _ => by omega⟩
  rw [c3, cond_false] at h
  by_cases c4 : (hdP getFG l).st > 16
  · rw [decide_eq_true c4] at h; cases h; exact ⟨by decide, by decide, fun _ => by show (1 : Int) ≤ _; omega⟩
  rw [decide_eq_false c4, cond_false] at h
  by_cases c5 : (hdP getFG l).po > 17
  · rw [decide_eq_true c5] at h; cases h; exact ⟨by decide, by decide, fun _ => by show (2 : Int) ≤ _; omega⟩
  rw [decide_eq_false c5, cond_false] at h
  cases c6 : (rdR l).1
  · rw [c6] at h; cases h; exact ⟨by simp, by simp, fun _ => by show (rdN l : Int) ≤ _; omega⟩
  rw [c6, Bool.not_true, cond_false] at h
  cases c7 : restBad l
  · rw [c7] at h; cases h
  · rw [c7] at h; cases h; exact ⟨by simp, by simp, fun _ => by show (rdN l : Int) ≤ _; omega⟩
theorem front_known : Known Try.prog hint 16 (fntP rowB frontL rdFc) := by
  refine known_weak fits (spec := tab [(27, rdP rowB rdPk rdK rdFa rdFc), (28, cloneP cloneC)]) (tab_cons rd_known (tab_cons clone_known tab_nil)) loops_none ?_
  intro xs T v T1 h
  unfold fntP at h
  split at h
  case h_2 => cases h
  rename_i nl cl z l
  simp only [List.mem_cons, List.not_mem_nil, or_false, Prod.mk.injEq, Bool.true_eq] at h
  obtain ⟨h1, rfl, rfl⟩ := h
  have hr := h1
  simp only [rowB, Bool.and_eq_true, decide_eq_true_eq] at hr
  obtain ⟨⟨rfl, hl⟩, ho⟩ := hr
  have ht := fnt_all nl cl 1 l rowB rdPk rdK rdFa rdFc cloneC
  rw [Nat.sub_zero, List.drop_zero] at ht
  refine ⟨noGd_of rfl, 30, ?_⟩
  cases hA : rdA l with
  | some x =>
    have e1 : rdFc l = x.2 := by unfold rdFc; rw [hA]
    have e2 : rdK l = 0 := by unfold rdK; rw [hA]
    refine ⟨.tup [.fsl (some true) true 0 [], .int .i64 (rdFc l)], ?_, ht.trans (bif_step h1 (bif_step ?_ rfl))⟩
    · refine Wk.tup (WkL.cons (Wk.fsl ?_ (.inl rfl) (by simp) (.inr rfl)) (WkL.cons (Wk.refl _) WkL.nil))
      simp [frontL, e2]
    · rw [e1, bne_iff_ne]; exact (rdA_code hA).1
  | none =>
    have e1 : rdFc l = 0 := by unfold rdFc; rw [hA]
    have e2 : rdK l = (rdN l : Int) := by unfold rdK; rw [hA]
    have h48 : 48 ≤ l.length := by
      by_cases c2 : l.length < 48
      · have c1 : ¬ 8192 < l.length := by omega
        rw [rdA, decide_eq_false c1, decide_eq_true c2] at hA; cases hA
      · omega
    have hN : rdN l ≤ l.length := rdL_le 9 48 [] h48
    refine ⟨.tup [.fsl none false 1 (List.take (rdK l).toNat l), .int .i64 0], ?_, ht.trans (bif_step h1 (bif_stepF (by rw [e1]; rfl) (bif_step (decide_eq_true (by rw [e2]; omega)) (bif_step (decide_eq_true (.inl rfl)) (bif_step ?_ rfl)))))⟩
    · rw [e1]; exact Wk.refl _
    · simp only [cloneC, decide_eq_true_eq, true_or, true_and, List.length_take]; omega

/-! ### Arguments -/
def XV.rng (v : XV) : Bool := decide (0 ≤ v.ts ∧ v.ts ≤ 4294967295 ∧ 0 ≤ v.fs ∧ v.fs ≤ 4294967295)
def PK.rng (p : PK) : Bool := decide (0 ≤ p.de ∧ p.de ≤ 4294967295 ∧ 0 ≤ p.di ∧ p.di ≤ 4294967295 ∧ 0 ≤ p.ri ∧ p.ri ≤ 4294967295 ∧ 0 ≤ p.ky ∧ p.ky ≤ 4294967295 ∧
  0 ≤ p.rf ∧ p.rf ≤ 18446744073709551615 ∧ 0 ≤ p.og ∧ p.og ≤ 18446744073709551615 ∧ 0 ≤ p.rc ∧ p.rc ≤ 18446744073709551615 ∧ 0 ≤ p.xm ∧ p.xm ≤ 18446744073709551615) && p.xs.all XV.rng
theorem ty47' {n : Nat} {l : List IV} (h : Ty Try.prog n 47 l) : ∃ v : XV, l = v.cells ∧ v.ok = true ∧ v.rng = true := by
  obtain ⟨m, _, h⟩ := ty_struct Try.underlying47 h
  simp only [FieldsT] at h
  obtain ⟨c1, r1, rfl, h1, c2, r2, rfl, h2, c3, r3, rfl, h3, c4, r4, rfl, h4, c5, r5, rfl, h5, c6, r6, rfl, h6, c7, r7, rfl, h7, c8, r8, rfl, h8, rfl⟩ := h
  obtain ⟨a, rfl, _⟩ := ty_int Try.underlying3 h1
  obtain ⟨b, rfl⟩ := ty_bool Try.underlying4 h2
  obtain ⟨c, rfl⟩ := ty_bool Try.underlying4 h3
  obtain ⟨d, rfl, _⟩ := ty_int Try.underlying3 h4
  obtain ⟨ts, rfl, qts, qts'⟩ := ty_int Try.underlying22 h5
  obtain ⟨fs, rfl, qfs, qfs'⟩ := ty_int Try.underlying22 h6
  obtain ⟨n1, k1, x1, rfl, _, o1, l1⟩ := ty25 h7
  obtain ⟨n2, k2, x2, rfl, _, o2, l2⟩ := ty25 h8
  refine ⟨⟨a, b, c, d, ts, fs, some n1, k1, 1, x1, some n2, k2, 1, x2⟩, rfl, ok_iff.2 ⟨⟨.inl rfl, .inl rfl, ?_, ?_⟩, o1, o2⟩, ?_⟩
  · show x1.length ≤ _; omega
  · show x2.length ≤ _; omega
  · simp only [XV.rng, decide_eq_true_eq]
    obtain ⟨ra, rb⟩ := Go.Im.range_u32
    omega
theorem arg29' {x : IV} (h : ArgT Try.prog 29 x) : ∃ p : PK, x = p.iv ∧ p.ok = true ∧ p.rng = true := by
  obtain ⟨n, l, h, hp, _⟩ := h
  obtain ⟨m, _, h⟩ := ty_struct Try.underlying29 h
  simp only [FieldsT] at h
  obtain ⟨c1, r1, rfl, h1, c2, r2, rfl, h2, c3, r3, rfl, h3, c4, r4, rfl, h4, c5, r5, rfl, h5, c6, r6, rfl, h6, c7, r7, rfl, h7, c8, r8, rfl, h8, c9, r9, rfl, h9, c10, r10, rfl, h10, c11, r11, rfl, h11, c12, r12, rfl, h12, c13, r13, rfl, h13, c14, r14, rfl, h14, c15, r15, rfl, h15, rfl⟩ := h
  obtain ⟨le, rfl, _⟩ := ty_int Try.underlying3 h1
  obtain ⟨ve, rfl, _⟩ := ty_int Try.underlying3 h2
  obtain ⟨mo, rfl, _⟩ := ty_int Try.underlying3 h3
  obtain ⟨st, rfl, _⟩ := ty_int Try.underlying3 h4
  obtain ⟨po, rfl, _⟩ := ty_int Try.underlying3 h5
  obtain ⟨pr, rfl, _⟩ := ty_int Try.underlying3 h6
  obtain ⟨de, rfl, qde, qde'⟩ := ty_int Try.underlying22 h7
  obtain ⟨di, rfl, qdi, qdi'⟩ := ty_int Try.underlying22 h8
  obtain ⟨ri, rfl, qri, qri'⟩ := ty_int Try.underlying22 h9
  obtain ⟨rf, rfl, qrf, qrf'⟩ := ty_int Try.underlying23 h10
  obtain ⟨og, rfl, qog, qog'⟩ := ty_int Try.underlying23 h11
  obtain ⟨rc, rfl, qrc, qrc'⟩ := ty_int Try.underlying23 h12
  obtain ⟨xm, rfl, qxm, qxm'⟩ := ty_int Try.underlying23 h13
  obtain ⟨k, nl, cl, es, _, rfl, _, e2, e3, e4⟩ := ty_slice Try.underlying24 h14
  obtain ⟨j, _, h15⟩ := ty_struct Try.underlying27 h15
  simp only [FieldsT] at h15
  obtain ⟨d1, s1, rfl, g1, d2, s2, rfl, g2, d3, s3, rfl, g3, rfl⟩ := h15
  obtain ⟨ha, rfl⟩ := ty_bool Try.underlying4 g1
  obtain ⟨ky, rfl, qky, qky'⟩ := ty_int Try.underlying22 g2
  obtain ⟨n2, k2, x2, rfl, _, o2, l2⟩ := ty25 g3
  rw [bytes47, reach_val] at e2
  rw [cells47] at hp
  refine ⟨⟨le, ve, mo, st, po, pr, de, di, ri, rf, og, rc, xm, some nl, cl, 8, es, ha, ky, some n2, k2, 1, x2⟩, pack_struct Try.underlying29 hp cells29.symm, pok_iff.2 ⟨⟨.inl rfl, .inl rfl, ?_, ?_⟩, o2, ?_⟩, ?_⟩
  · show es.length ≤ _; omega
  · show x2.length ≤ _; omega
  · rw [List.all_eq_true]
    intro x hx
    obtain ⟨cs, hq, _, ht⟩ := e4 x hx
    obtain ⟨v, rfl, hv, _⟩ := ty47' ht
    rw [pack_struct Try.underlying47 hq cells47.symm]
    exact hv
  · simp only [PK.rng, Bool.and_eq_true, decide_eq_true_eq, List.all_eq_true]
    obtain ⟨ra, rb⟩ := Go.Im.range_u32
    obtain ⟨rd, re⟩ := Go.Im.range_u64
    refine ⟨by omega, fun v hv => ?_⟩
    obtain ⟨x, hx, rfl⟩ := List.mem_map.1 hv
    obtain ⟨cs, hq, _, ht⟩ := e4 x hx
    obtain ⟨v, rfl, _, hr⟩ := ty47' ht
    rw [pack_struct Try.underlying47 hq cells47.symm]
    exact hr

end
end Go.Proofs.Ytphddjolipaejaa
