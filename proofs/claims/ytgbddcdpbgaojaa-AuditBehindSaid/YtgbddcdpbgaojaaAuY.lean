/- AuditOnce and AuditMore at all arguments. It bears no condition. -/
import Derived.Test.YtgbddcdpbgaojaaAuW
namespace Go.Proofs.Ytgbddcdpbgaojaa
open Go Go.Im
set_option linter.unusedVariables false
set_option linter.unusedSimpArgs false
noncomputable section

/-! ### The arguments -/
def types : List TypeId := [2, 3, 5, 22, 23, 30, 51, 52, 54, 69]
theorem cells54 : Try.prog.cellsOf 54 = 5 := by kernel_rfl
theorem bytes54 : Try.prog.bytesOf 54 = 48 := by kernel_rfl
theorem cells5 : Try.prog.cellsOf 5 = 1 := by kernel_rfl
theorem bytes5 : Try.prog.bytesOf 5 = 1 := by kernel_rfl
theorem ty52 {n : Nat} {l : List IV} (h : Ty Try.prog n 52 l) : ∃ nl cl es, l = [.fsl (some nl) cl 1 es] ∧ okB es = true ∧ es.length ≤ 140737488351232 := by
  obtain ⟨m, nl, cl, es, rfl, rfl, _, e1, _, e3⟩ := ty_slice und52 h
  rw [bytes5, reach_val] at e1
  rw [cells5]
  refine ⟨nl, cl, es, rfl, ?_, by omega⟩
  unfold okB
  rw [List.all_eq_true]
  intro x hx
  obtain ⟨cs, hq, _, ht⟩ := e3 x hx
  obtain ⟨i, rfl, h1, h2⟩ := ty_int und5 ht
  have : x = .int .u8 i := by
    simp only [pack, isAggT, und5, Option.map_some] at hq
    exact (Option.some.inj hq).symm
  subst this
  obtain ⟨ra, rb⟩ := Go.Im.range_u8
  simp only [decide_eq_true_eq]
  omega
theorem und51 : Try.prog.underlying 51 = some (.int .u32) := by kernel_rfl
theorem ty54 {n : Nat} {l : List IV} (h : Ty Try.prog n 54 l) : ∃ k hh p a nl cl bs, l = [.int .i64 k, .int .u32 hh, .int .u32 p, .int .i64 a, .fsl (some nl) cl 1 bs] ∧ isEv (.agg [.int .i64 k, .int .u32 hh, .int .u32 p, .int .i64 a, .fsl (some nl) cl 1 bs]) = true := by
  obtain ⟨m, _, h⟩ := ty_struct Try.underlying54 h
  simp only [FieldsT] at h
  obtain ⟨c1, r1, rfl, h1, c2, r2, rfl, h2, c3, r3, rfl, h3, c4, r4, rfl, h4, c5, r5, rfl, h5, rfl⟩ := h
  obtain ⟨k, rfl, _⟩ := ty_int Try.underlying3 h1
  obtain ⟨hh, rfl, q1, q2⟩ := ty_int und51 h2
  obtain ⟨p, rfl, q3, q4⟩ := ty_int und51 h3
  obtain ⟨a, rfl, _⟩ := ty_int Try.underlying2 h4
  obtain ⟨nl, cl, bs, rfl, o1, o2⟩ := ty52 h5
  refine ⟨k, hh, p, a, nl, cl, bs, rfl, ?_⟩
  obtain ⟨ra, rb⟩ := Go.Im.range_u32
  unfold isEv
  simp only [Bool.and_eq_true, decide_eq_true_eq]
  exact ⟨⟨⟨by omega, by omega⟩, o1⟩, o2⟩
theorem arg22 {x : IV} (h : ArgT Try.prog 22 x) : ∃ nl cl l, x = .fsl nl cl 5 l ∧ l.all isEv = true ∧ l.length ≤ 140737488351232 := by
  obtain ⟨n, l, h1, h2, _⟩ := h
  obtain ⟨m, nl, cl, es, rfl, rfl, _, e1, e2, e3⟩ := ty_slice Try.underlying22 h1
  rw [bytes54, reach_val] at e1
  have hx : x = .fsl (some nl) cl (Try.prog.cellsOf 54) es := by
    simp only [pack, isAggT, Try.underlying22, Option.map_some] at h2
    exact (Option.some.inj h2).symm
  rw [cells54] at hx
  refine ⟨some nl, cl, es, hx, ?_, by omega⟩
  rw [List.all_eq_true]
  intro y hy
  obtain ⟨cs, hq, _, ht⟩ := e3 y hy
  obtain ⟨k, hh, p, a, nl, cl, bs, rfl, ho⟩ := ty54 ht
  rw [pack_struct Try.underlying54 hq cells54.symm]
  exact ho
theorem arg54 {x : IV} (h : ArgT Try.prog 54 x) : isEv x = true := by
  obtain ⟨n, l, h1, h2, _⟩ := h
  obtain ⟨k, hh, p, a, nl, cl, bs, rfl, ho⟩ := ty54 h1
  rw [pack_struct Try.underlying54 h2 cells54.symm]
  exact ho

/-! ### AuditOnce -/
theorem cO_of {l : List IV} (h1 : l.all isEv = true) (h2 : l.length ≤ 1000) : cO l = true := by unfold cO; rw [h1, decide_eq_true h2]; rfl
theorem auditOnce_run (xs : List IV) (hl : xs.length = Try.f5.params.size) (h : ∀ (i : Nat) t, Try.f5.params[i]? = some t → ∃ x, xs[i]? = some x ∧ ArgT Try.prog t x) :
    ∃ k, acall Try.prog hint (ovrOf tabV') k 5 xs [] = some (.bool true, []) := by
  rw [Try.params5] at hl h
  obtain ⟨x0, g0, a0⟩ := h 0 22 rfl
  match xs, hl with
  | [y0], _ =>
    simp only [List.getElem?_cons_zero, Option.some.injEq] at g0
    subst g0
    obtain ⟨nl, cl, l, rfl, ha, _⟩ := arg22 a0
    cases hlong : gLong l
    · have hlen := long_len hlong
      rw [List.length_map] at hlen
      obtain ⟨d, hd, hrun⟩ := on_runs ha (by omega) (nl := nl) (cl := cl) (mat (evs l)).length 0 .undef (by omega) (.inl rfl)
      rcases hd with rfl | ⟨d, rfl⟩
      · have hls : LoopsOK Try.prog hint NV (ltab [(5, 122, LF 5 0 (oneF (onV nl cl l (gM (gO l)) 0 .undef) [] (.exit 0) (onV nl cl l (gM (gO l)) ((mat (evs l)).length : Int) .undef) []))]) := by
          refine ltab_cons (by kernel_rfl) (loopF_ok fun vs bx e vs' bx' hm => ?_) ltab_nil
          obtain ⟨rfl, rfl, rfl, rfl, rfl⟩ := oneF_mem hm
          rw [gM_O]
          exact hrun
        exact law_run hls (n := 30) ((on_call0 cE gLong cM gM cO gO cA gA nl cl l ((mat (evs l)).length : Int)).trans (bif_step ha (bif_stepF hlong (bif_step (cO_of ha (by omega)) (bif_step (cM_O ha (by omega)) (bif_step sameS_t rfl))))))
      · have hls : LoopsOK Try.prog hint NV (ltab [(5, 122, LF 5 0 (oneF (onV nl cl l (gM (gO l)) 0 .undef) [] (.exit 0) (onV nl cl l (gM (gO l)) ((mat (evs l)).length : Int) (.int .i64 d)) []))]) := by
          refine ltab_cons (by kernel_rfl) (loopF_ok fun vs bx e vs' bx' hm => ?_) ltab_nil
          obtain ⟨rfl, rfl, rfl, rfl, rfl⟩ := oneF_mem hm
          rw [gM_O]
          exact hrun
        exact law_run hls (n := 30) ((on_call1 cE gLong cM gM cO gO cA gA nl cl l ((mat (evs l)).length : Int) d).trans (bif_step ha (bif_stepF hlong (bif_step (cO_of ha (by omega)) (bif_step (cM_O ha (by omega)) (bif_step sameS_t rfl))))))
    · exact law_run (ls := ltab [(5, 122, noL)]) (n := 30) (ltab_cons (by kernel_rfl) (fun p s e s' h => by cases h) ltab_nil) ((on_long cE gLong cM gM cO gO cA gA nl cl l).trans (bif_step ha (bif_step hlong rfl)))
end
end Go.Proofs.Ytgbddcdpbgaojaa
