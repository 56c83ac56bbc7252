/- Values' bytes: the document's fits, the whole call; lengths. It bears no condition. -/
import Derived.Test.YtolpgbgmldpneaaDrF
namespace Go.Proofs.Ytolpgbgmldpneaa
open Go Go.Im
set_option linter.unusedVariables false
set_option linter.unusedSimpArgs false
set_option maxRecDepth 20000
noncomputable section

theorem fits12 (bs : List UInt8) : fitsB 12 bs = !bs.any badC := rfl
theorem wrapU (x : UInt8) : IntKind.i64.wrap (x.toNat : Int) = x.toNat := by have := x.toNat_lt; rw [wrap_i64]; omega
theorem rfit_known : Known Try.prog hint 39 (fitP cFt gFt) := by
  refine known_alt fits fun us T v T1 h => ?_
  unfold fitP at h
  split at h
  case h_2 => cases h
  rename_i t nl cl z l
  simp only [List.mem_cons, List.not_mem_nil, or_false, Prod.mk.injEq, Bool.true_eq] at h
  obtain ⟨h1, rfl, rfl⟩ := h
  simp only [cFt, cIx, Bool.and_eq_true, decide_eq_true_eq] at h1
  obtain ⟨⟨h1, h2⟩, h3⟩ := h1
  obtain ⟨bs, rfl, hz⟩ := okz h1 h3
  rw [u8s_len] at h2
  refine ⟨[[.int .i64 t, .fsl nl cl z (u8s bs)]], by simp, Splits.self _, fun ys hy => ?_⟩
  rw [List.mem_singleton] at hy
  subst hy
  have q := rit_runs h2 (nl := nl) (cl := cl) hz
  rw [foldE_find badC (fun i => (Ex.ret, Sx 39 (riV nl cl z (u8s bs) false ((u8s bs).length : Int) (.int .i64 (i : Int))) []))] at q
  unfold gFt
  rw [toBytes_u8s]
  by_cases t12 : t = 12
  · subst t12
    rw [fits12, any_idx]
    cases hf : bs.findIdx? badC with
    | none =>
      rw [hf] at q
      have hls : LoopsOK Try.prog hint (acall Try.prog hint (ovrOf tabF)) (ltab [(39, 1933298, LF 39 0 (oneF (riV nl cl z (u8s bs) false ((u8s bs).length : Int) (.int .i64 0)) [] (.exit 1) (riV nl cl z (u8s bs) false ((u8s bs).length : Int) (.int .i64 ((u8s bs).length : Int))) []))]) := by
        refine ltab_cons (by kernel_rfl) (loopF_ok fun vs bx e vs' bx' hm => ?_) ltab_nil
        obtain ⟨rfl, rfl, rfl, rfl, rfl⟩ := oneF_mem hm
        rw [u8s_len] at q ⊢
        exact q
      exact ⟨noGd_of rfl, tabF, _, tabF_ok, hls, 30, _, Wk.refl _, (rit_no cLo gLo 12 nl cl z (u8s bs)).trans (bif_stepF rfl (bif_stepF rfl (bif_stepF rfl (bif_stepF rfl (bif_stepF rfl (bif_step rfl (bif_step sameS_t rfl)))))))⟩
    | some j =>
      rw [hf] at q
      have hls : LoopsOK Try.prog hint (acall Try.prog hint (ovrOf tabF)) (ltab [(39, 1933298, LF 39 0 (oneF (riV nl cl z (u8s bs) false ((u8s bs).length : Int) (.int .i64 0)) [] .ret (riV nl cl z (u8s bs) false ((u8s bs).length : Int) (.int .i64 (j : Int))) []))]) := by
        refine ltab_cons (by kernel_rfl) (loopF_ok fun vs bx e vs' bx' hm => ?_) ltab_nil
        obtain ⟨rfl, rfl, rfl, rfl, rfl⟩ := oneF_mem hm
        exact q
      refine ⟨noGd_of rfl, tabF, _, tabF_ok, hls, 30, _, Wk.refl _, (rit_yes cLo gLo 12 nl cl z (u8s bs) j).trans (bif_stepF rfl (bif_stepF rfl (bif_stepF rfl (bif_stepF rfl (bif_stepF rfl (bif_step rfl (bif_step sameS_t ?_)))))))⟩
      simp only
      rw [decide_eq_true (Int.natCast_nonneg j)]
      rfl
  have hls : LoopsOK Try.prog hint (acall Try.prog hint (ovrOf tabF)) (ltab [(39, 1933298, noL)]) := ltab_cons (by kernel_rfl) (fun p s e s' h => by cases h) ltab_nil
  refine ⟨noGd_of rfl, tabF, _, tabF_ok, hls, 30, _, Wk.refl _, (rit_else cLo gLo t nl cl z (u8s bs)).trans ?_⟩
  by_cases t1 : t = 1
  · subst t1
    refine bif_step rfl ?_
    rcases bs with _ | ⟨x, _ | ⟨y, r⟩⟩
    · exact bif_stepF rfl rfl
    · obtain rfl : z = 1 := hz.resolve_right (by simp)
      refine bif_step rfl (bif_step rfl (bif_step rfl ?_))
      rw [u0, cellI, intI]
      by_cases hx : x.toNat = 0
      · exact bif_stepF (by rw [hx]; rfl) (by simp [fitsB, hx])
      · refine bif_step ?_ (bif_step rfl (bif_step rfl ?_))
        · rw [show ((x.toNat : Int) == 0) = false from beq_eq_false_iff_ne.2 (by omega)]; rfl
        · rw [show ((x.toNat : Int) == (255 : Int)) = (x.toNat == 255) from beqN _ 255]
          simp [fitsB, hx]
    · refine bif_stepF ?_ ?_
      · rw [show (((u8s (x :: y :: r)).length : Int) == 1) = false from beq_eq_false_iff_ne.2 (by rw [u8s_len]; simp only [List.length_cons]; omega)]; rfl
      · rfl
  by_cases t2 : t = 2
  · subst t2
    refine bif_stepF rfl (bif_step rfl ?_)
    rcases bs with _ | ⟨x, _ | ⟨y, r⟩⟩
    · rfl
    · rfl
    · obtain rfl : z = 1 := hz.resolve_right (by simp)
      have e2 : decide (((u8s (x :: y :: r)).length : Int) < 2) = false := decide_eq_false (by rw [u8s_len]; simp only [List.length_cons]; omega)
      have e3 : decide ((1 : Nat) = 1 ∧ (0 : Int) ≤ 0 ∧ (0 : Int) < ((u8s (x :: y :: r)).length : Int)) = true := decide_eq_true ⟨rfl, by omega, by rw [u8s_len]; simp only [List.length_cons]; omega⟩
      have e4 : decide ((1 : Nat) = 1 ∧ (0 : Int) ≤ 1 ∧ (1 : Int) < ((u8s (x :: y :: r)).length : Int)) = true := decide_eq_true ⟨rfl, by omega, by rw [u8s_len]; simp only [List.length_cons]; omega⟩
      have e5 : ((x.toNat : Int) == (0 : Int)) = (x.toNat == 0) := beqN _ 0
      have e6 : ((x.toNat : Int) == (255 : Int)) = (x.toNat == 255) := beqN _ 255
      have e7 : decide ((y.toNat : Int) < (128 : Int)) = decide (y.toNat < 128) := dltN _ 128
      have e8 : decide ((y.toNat : Int) > (127 : Int)) = decide (128 ≤ y.toNat) := by rw [Bool.eq_iff_iff]; simp only [decide_eq_true_eq]; omega
      rw [u0, u1, cellI, cellI, intI, intI, e2, e3, e4, e5, e6, e7, e8, isI, isI]
      have fb : fitsB 2 (x :: y :: r) = (!(x.toNat == 0 && decide (y.toNat < 128)) && !(x.toNat == 255 && decide (128 ≤ y.toNat))) := rfl
      rw [fb]
      have k0 : (x.toNat == 0) = true ∧ (x.toNat == 255) = false ∨ (x.toNat == 0) = false ∧ (x.toNat == 255) = true ∨ (x.toNat == 0) = false ∧ (x.toNat == 255) = false := by
        simp only [beq_iff_eq, beq_eq_false_iff_ne]; omega
      have k1 : decide (y.toNat < 128) = true ∧ decide (128 ≤ y.toNat) = false ∨ decide (y.toNat < 128) = false ∧ decide (128 ≤ y.toNat) = true := by
        simp only [decide_eq_true_eq, decide_eq_false_iff_not]; omega
      rcases k0 with ⟨a, b⟩ | ⟨a, b⟩ | ⟨a, b⟩ <;> rcases k1 with ⟨c, d⟩ | ⟨c, d⟩ <;> rw [a, b, c, d] <;> rfl
  by_cases t3 : t = 3
  · subst t3
    refine bif_stepF rfl (bif_stepF rfl (bif_step rfl ?_))
    rcases bs with _ | ⟨x, _ | ⟨y, r⟩⟩
    · rfl
    · obtain rfl : z = 1 := hz.resolve_right (by simp)
      have e5 : ((x.toNat : Int) == (0 : Int)) = (x.toNat == 0) := beqN _ 0
      refine bif_step rfl (bif_step rfl (bif_step rfl (bif_step rfl ?_)))
      rw [u0, cellI, intI, e5]
      rfl
    · obtain rfl : z = 1 := hz.resolve_right (by simp)
      have hlen : (u8s (x :: y :: r)).length = r.length + 2 := by rw [u8s_len]; rfl
      have w : IntKind.i64.wrap (((u8s (x :: y :: r)).length : Int) - (1 : Int)) = ((r.length + 1 : Nat) : Int) := by
        rw [hlen, wrap_i64]; simp only [List.length_cons] at h2; omega
      have e6 : decide ((x.toNat : Int) < (8 : Int)) = decide (x.toNat < 8) := dltN _ 8
      have e7 : decide ((1 : Nat) = 1 ∧ (0 : Int) ≤ ((r.length + 1 : Nat) : Int) ∧ ((r.length + 1 : Nat) : Int) < ((u8s (x :: y :: r)).length : Int)) = true := decide_eq_true ⟨rfl, by omega, by rw [hlen]; omega⟩
      have e3 : decide ((1 : Nat) = 1 ∧ (0 : Int) ≤ 0 ∧ (0 : Int) < ((u8s (x :: y :: r)).length : Int)) = true := decide_eq_true ⟨rfl, by omega, by rw [hlen]; omega⟩
      have e2 : decide (((u8s (x :: y :: r)).length : Int) < 2) = false := decide_eq_false (by rw [hlen]; omega)
      have eL : nthD (u8s (x :: y :: r)) (((r.length + 1 : Nat) : Int)).toNat = .int .u8 (((y :: r).getLast (by simp)).toNat : Int) := by
        rw [nthD_u8 (by simp)]
        congr 3
        rw [List.getLast_eq_getElem]
        simp
      rw [w, eL, e7, u0, cellI, cellI, intI, intI, isI, isI, e2, e3, e6, wrapU]
      have fb : fitsB 3 (x :: y :: r) = (decide (x.toNat < 8) && lowB ((y :: r).getLast (by simp)) x.toNat) := rfl
      rw [fb]
      by_cases k : x.toNat < 8
      · generalize (y :: r).getLast (by simp) = u
        have hu := u.toNat_lt
        have hc : cLo (u.toNat : Int) (x.toNat : Int) = true := decide_eq_true (by omega)
        have hx : u8of (u.toNat : Int) = u := by
          have := u8of_toNat (u.toNat : Int)
          exact UInt8.toNat_inj.1 (by omega)
        have hg : gLo (u.toNat : Int) (x.toNat : Int) = lowB u x.toNat := by unfold gLo; rw [hx, Int.toNat_natCast]
        rw [decide_eq_true k, hc, hg]; rfl
      · rw [decide_eq_false k]; rfl
  by_cases t4 : t = 4
  · subst t4
    exact bif_stepF rfl (bif_stepF rfl (bif_stepF rfl (bif_step rfl rfl)))
  by_cases t5 : t = 5
  · subst t5
    refine bif_stepF rfl (bif_stepF rfl (bif_stepF rfl (bif_stepF rfl (bif_step rfl ?_))))
    have fb : fitsB 5 bs = bs.isEmpty := rfl
    rw [fb]
    congr 3
    rw [u8s_len]
    cases bs with
    | nil => rfl
    | cons x r => simp only [List.length_cons, List.isEmpty_cons]; exact beq_eq_false_iff_ne.2 (by omega)
  · have n1 : (t == (1 : Int)) = false := beq_eq_false_iff_ne.2 t1
    have n2 : (t == (2 : Int)) = false := beq_eq_false_iff_ne.2 t2
    have n3 : (t == (3 : Int)) = false := beq_eq_false_iff_ne.2 t3
    have n4 : (t == (4 : Int)) = false := beq_eq_false_iff_ne.2 t4
    have n5 : (t == (5 : Int)) = false := beq_eq_false_iff_ne.2 t5
    have n12 : (t == (12 : Int)) = false := beq_eq_false_iff_ne.2 t12
    have fb : fitsB t bs = false := by unfold fitsB; rw [n1, n2, n3, n4, n5, n12]; rfl
    rw [fb]
    exact bif_stepF n1 (bif_stepF n2 (bif_stepF n3 (bif_stepF n4 (bif_stepF n5 (bif_stepF n12 rfl)))))
end
end Go.Proofs.Ytolpgbgmldpneaa
