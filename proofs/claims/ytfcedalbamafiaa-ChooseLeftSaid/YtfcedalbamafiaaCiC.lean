/- ChooseMajority: what is proved of the given program. It bears no condition. -/
import Derived.Test.YtfcedalbamafiaaCiB
namespace Go.Proofs.Ytfcedalbamafiaa
open Go Go.Im
set_option linter.unusedVariables false
set_option linter.unusedSimpArgs false
noncomputable section

theorem alive_known' : Known Try.prog hint 10 (constF (.bool true)) := by
  refine known_of fits (spec := tab []) tab_nil loops_none ?_
  intro xs T v T1 h
  unfold constF at h
  split at h
  · simp only [List.mem_cons, List.not_mem_nil, or_false, Prod.mk.injEq] at h
    obtain ⟨_, rfl, rfl⟩ := h
    exact ⟨60, by kernel_rfl⟩
  · cases h
abbrev tabJ' : FuncId → Option SpecF := tabJ spOK (fun l => rgLo (sps l)) (fun l => rgHi (sps l)) (fun l => rgCode (sps l)) (fun l x => ((cov (sps l) x : Nat) : Int))
theorem tabJ_ok : ∀ f F, tabJ' f = some F → Known Try.prog hint f F := tab_cons alive_known' (tab_cons region_known (tab_cons cover_known tab_nil))
theorem maj_true (nl : Option Bool) (cl : Bool) (l : List IV) (x : Int) (h : spOK 3 l = true) : C tabJ' 3 [.fsl nl cl 3 l, .int .i64 x] = some (.bool true, []) := by
  refine (maj_tree nl cl 3 l x ..).trans ?_
  have hll := sps_len l
  by_cases c1 : (l.length : Int) > 200
  · exact bif_step (decide_eq_true c1) rfl
  refine bif_stepF (decide_eq_false c1) (bif_step h ?_)
  by_cases hb : rgBad (sps l) = true
  · exact bif_step (by unfold rgCode; rw [hb]; rfl) rfl
  have hb' : rgBad (sps l) = false := by simpa using hb
  have hany : (sps l).any badSp = false := by
    unfold rgBad at hb'
    rw [Bool.or_eq_false_iff] at hb'
    exact hb'.2
  have hcode : rgCode (sps l) = bif (sweep (sps l)).fd then 0 else 150 := by unfold rgCode; rw [hb']; rfl
  have hcl := cov_le (sps l) x
  refine bif_stepF (by rw [hcode]; cases (sweep (sps l)).fd <;> rfl) (bif_step h ?_)
  rw [show (2 : Int) * ((cov (sps l) x : Nat) : Int) = ((2 * cov (sps l) x : Nat) : Int) by omega, wi_nat (by omega)]
  by_cases c2 : ((2 * cov (sps l) x : Nat) : Int) ≤ (l.length : Int)
  · refine bif_step (decide_eq_true c2) ?_
    rw [hcode]
    cases (sweep (sps l)).fd <;> rfl
  · refine bif_stepF (decide_eq_false c2) ?_
    obtain ⟨m1, m2, m3⟩ := sweep_maj (x := x) hany (by omega)
    have e1 : rgLo (sps l) = (sweep (sps l)).lo := by unfold rgLo; rw [hb', m1]; rfl
    have e2 : rgHi (sps l) = (sweep (sps l)).hi := by unfold rgHi; rw [hb', m1]; rfl
    rw [hcode, m1, e1, e2, decide_eq_true m2, decide_eq_true m3]; rfl

/-! ### The arguments -/
theorem cells30 : Try.prog.cellsOf 30 = 3 := by kernel_rfl
theorem bytes30 : Try.prog.bytesOf 30 = 24 := by kernel_rfl
theorem ty30 {n : Nat} {l : List IV} (h : Ty Try.prog n 30 l) : ∃ s : Sp, l = [.int .i64 s.lo, .int .i64 s.mid, .int .i64 s.hi] := by
  obtain ⟨m, _, h⟩ := ty_struct Try.underlying30 h
  simp only [FieldsT] at h
  obtain ⟨c1, r1, rfl, h1, c2, r2, rfl, h2, c3, r3, rfl, h3, rfl⟩ := h
  obtain ⟨a, rfl, _⟩ := ty_int Try.underlying2 h1
  obtain ⟨b, rfl, _⟩ := ty_int Try.underlying2 h2
  obtain ⟨c, rfl, _⟩ := ty_int Try.underlying2 h3
  exact ⟨⟨a, b, c⟩, rfl⟩
theorem arg22 {x : IV} (h : ArgT Try.prog 22 x) : ∃ nl cl l, x = .fsl nl cl 3 l ∧ spOK 3 l = true := by
  obtain ⟨n, l, h1, h2, _⟩ := h
  obtain ⟨m, nl, cl, es, rfl, rfl, _, e1, e2, e3⟩ := ty_slice Try.underlying22 h1
  rw [bytes30, reach_val] at e1
  have hx : x = .fsl (some nl) cl (Try.prog.cellsOf 30) es := by
    simp only [pack, isAggT, Try.underlying22, Option.map_some] at h2
    exact (Option.some.inj h2).symm
  rw [cells30] at hx
  refine ⟨some nl, cl, es, hx, ?_⟩
  simp only [spOK, Bool.and_eq_true, decide_eq_true_eq, List.all_eq_true]
  refine ⟨⟨trivial, by omega⟩, fun y hy => ?_⟩
  obtain ⟨cs, hq, _, ht⟩ := e3 y hy
  obtain ⟨s, rfl⟩ := ty30 ht
  rw [pack_struct Try.underlying30 hq cells30.symm]
  rfl
theorem chooseMajority_run (xs : List IV) (hl : xs.length = Try.f3.params.size) (h : ∀ (i : Nat) t, Try.f3.params[i]? = some t → ∃ x, xs[i]? = some x ∧ ArgT Try.prog t x) :
    ∃ k, acall Try.prog hint (ovrOf tabJ') k 3 xs [] = some (.bool true, []) := by
  rw [Try.params3] at hl h
  obtain ⟨x0, g0, a0⟩ := h 0 22 rfl
  obtain ⟨x1, g1, a1⟩ := h 1 2 rfl
  match xs, hl with
  | [y0, y1], _ =>
    simp only [List.getElem?_cons_zero, List.getElem?_cons_succ, Option.some.injEq] at g0 g1
    subst g0 g1
    obtain ⟨nl, cl, l, rfl, ho⟩ := arg22 a0
    obtain ⟨x, rfl, _⟩ := arg_int Try.underlying2 a1
    exact law_run loops_none (maj_true nl cl l x ho)
end
end Go.Proofs.Ytfcedalbamafiaa
