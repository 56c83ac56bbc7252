/- The law ChooseMiddle at all arguments. It bears no condition. -/
import Derived.Test.YtfcedalbamafiaaChD
namespace Go.Proofs.Ytfcedalbamafiaa
open Go Go.Im
set_option linter.unusedVariables false

theorem arg_int {P : Program} {t : TypeId} {k : IntKind} (hu : P.underlying t = some (.int k)) {x : IV} (h : ArgT P t x) : ∃ i, x = .int k i ∧ k.min ≤ i ∧ i ≤ k.max := by
  obtain ⟨n, l, h1, h2, _⟩ := h
  cases n with
  | zero => simp [Ty] at h1
  | succ n =>
    unfold Ty at h1
    rw [hu] at h1
    obtain ⟨i, rfl, hw⟩ := h1
    have : x = .int k i := by
      simp only [pack, isAggT, hu, Option.map_some] at h2
      exact (Option.some.inj h2).symm
    refine ⟨i, this, ?_⟩
    simpa [Lit.wf] using hw
theorem args3 {P : Program} {ps : Array TypeId} {t0 t1 t2 : TypeId} (hp : ps = #[t0, t1, t2]) {xs : List IV} (hl : xs.length = ps.size) (h : ∀ (i : Nat) t, ps[i]? = some t → ∃ x, xs[i]? = some x ∧ ArgT P t x) :
    ∃ x0 x1 x2, xs = [x0, x1, x2] ∧ ArgT P t0 x0 ∧ ArgT P t1 x1 ∧ ArgT P t2 x2 := by
  subst hp
  obtain ⟨x0, g0, a0⟩ := h 0 t0 rfl
  obtain ⟨x1, g1, a1⟩ := h 1 t1 rfl
  obtain ⟨x2, g2, a2⟩ := h 2 t2 rfl
  match xs, hl with
  | [y0, y1, y2], _ =>
    simp only [List.getElem?_cons_zero, List.getElem?_cons_succ, Option.some.injEq] at g0 g1 g2
    subst g0 g1 g2
    exact ⟨_, _, _, rfl, a0, a1, a2⟩
/-- The cells of a row of numbers. -/
theorem ints_of {P : Program} {t : TypeId} {k : IntKind} (hu : P.underlying t = some (.int k)) {n : Nat} : ∀ {es : List IV}, (∀ x ∈ es, ∃ cs, pack P t cs = some x ∧ cellsOK cs = true ∧ Ty P n t cs) → ∃ zs : List Int, es = zs.map (IV.int k) ∧ ∀ z ∈ zs, k.min ≤ z ∧ z ≤ k.max
  | [], _ => ⟨[], rfl, fun z h => by cases h⟩
  | x :: es, h => by
    obtain ⟨zs, h1, h2⟩ := ints_of hu fun y hy => h y (List.mem_cons_of_mem _ hy)
    obtain ⟨cs, p, _, ty⟩ := h x List.mem_cons_self
    cases n with
    | zero => simp [Ty] at ty
    | succ n =>
      unfold Ty at ty
      rw [hu] at ty
      obtain ⟨i, rfl, hw⟩ := ty
      have hx : x = .int k i := by
        simp only [pack, isAggT, hu, Option.map_some] at p
        exact (Option.some.inj p).symm
      refine ⟨i :: zs, by rw [hx, h1]; rfl, fun z hz => ?_⟩
      rcases List.mem_cons.1 hz with rfl | hz
      · simpa [Lit.wf] using hw
      · exact h2 z hz
theorem arg_row {P : Program} {t e : TypeId} {k : IntKind} (hs : P.underlying t = some (.slice e)) (hu : P.underlying e = some (.int k)) {x : IV} (h : ArgT P t x) :
    ∃ nl cl zs, x = .fsl (some nl) cl (P.cellsOf e) (List.map (IV.int k) zs) ∧ (nl = true → zs = [] ∧ cl = true) ∧ zs.length * P.bytesOf e ≤ reachBytes ∧ zs.length ≤ maxLen ∧ ∀ z ∈ zs, k.min ≤ z ∧ z ≤ k.max := by
  obtain ⟨n, l, h1, h2, _⟩ := h
  cases n with
  | zero => simp [Ty] at h1
  | succ n =>
    unfold Ty at h1
    rw [hs] at h1
    obtain ⟨nl, cl, es, rfl, hn, hb, hm, he⟩ := h1
    obtain ⟨zs, rfl, hz⟩ := ints_of hu he
    have : x = .fsl (some nl) cl (P.cellsOf e) (zs.map (IV.int k)) := by
      simp only [pack, isAggT, hs, Option.map_some] at h2
      exact (Option.some.inj h2).symm
    refine ⟨nl, cl, zs, this, fun h => ?_, by simpa using hb, by simpa using hm, hz⟩
    obtain ⟨a, b⟩ := hn h
    exact ⟨by simpa using a, b⟩
theorem cells2 : Try.prog.cellsOf 2 = 1 := by kernel_rfl
theorem bytes2 : Try.prog.bytesOf 2 = 8 := by kernel_rfl
theorem arg32 {x : IV} (h : ArgT Try.prog 32 x) : ∃ nl cl zs, x = .fsl (some nl) cl 1 (List.map (IV.int .i64) zs) ∧ zs.length ≤ 4611686018427387904 ∧ ∀ z ∈ zs, -9223372036854775808 ≤ z ∧ z ≤ 9223372036854775807 := by
  obtain ⟨nl, cl, zs, rfl, _, h1, _, h2⟩ := arg_row Try.underlying32 Try.underlying2 h
  rw [bytes2] at h1
  rw [cells2]
  have : reachBytes = 140737488351232 := by decide
  exact ⟨nl, cl, zs, rfl, by omega, h2⟩
theorem chooseMiddle_run (xs : List IV) (hl : xs.length = Try.f5.params.size) (h : ∀ (i : Nat) t, Try.f5.params[i]? = some t → ∃ x, xs[i]? = some x ∧ ArgT Try.prog t x) :
    ∃ k, acall Try.prog hint (ovrOf tabM') k 5 xs [] = some (.bool true, []) := by
  obtain ⟨x0, x1, x2, rfl, h0, h1, h2⟩ := args3 Try.params5 hl h
  obtain ⟨nl, cl, zs, rfl, hz, _⟩ := arg32 h0
  obtain ⟨nl', cl', ws, rfl, hw, _⟩ := arg32 h1
  obtain ⟨b, rfl, _⟩ := arg_int Try.underlying2 h2
  exact law_run midLs_ok (mid_true _ _ _ _ _ _ _ hz hw)
end Go.Proofs.Ytfcedalbamafiaa
