/- Values' bytes: small functions, what is proved. It bears no condition. -/
import Derived.Test.YtolpgbgmldpneaaDrB
namespace Go.Proofs.Ytolpgbgmldpneaa
open Go Go.Im
set_option linter.unusedVariables false
set_option linter.unusedSimpArgs false
set_option maxRecDepth 20000
noncomputable section

theorem nthD_at {l : List IV} {i : Nat} (h : i < l.length) : nthD l ((i : Int)).toNat = l[i] := by
  rw [Int.toNat_natCast]; simp [nthD, List.getD, h]
theorem known_acall {P : Program} {H : Hint} (hP : Fits P) {f : FuncId} {F : SpecF}
    (h : ∀ xs T v T1, (true, v, T1) ∈ F xs T → ∃ (spec : FuncId → Option SpecF) (k : Nat), (∀ f F, spec f = some F → Known P H f F) ∧ acall P H (ovrOf spec) k f xs T = some (v, T1)) : Known P H f F := by
  intro g xs T r T1 hr
  simp only at hr
  split at hr
  · rename_i hg
    subst hg
    obtain ⟨⟨t, v, T2⟩, hF, e⟩ := Option.map_eq_some_iff.1 hr
    cases e
    have ht := List.find?_some hF
    simp only at ht
    subst ht
    obtain ⟨spec, k, hs, hk⟩ := h xs T _ _ (List.mem_of_find?_eq_some hF)
    exact sound hP.order hP.small hP.quiet (ovr_ok hs) k g xs T _ _ hk
  · cases hr
/-! ### Clone -/
def cCl (z : Nat) (l : List IV) : Bool := decide ((z = 1 ∨ l.length = 0) ∧ l.length ≤ 140737488355328)
theorem clone_known : Known Try.prog hint 42 (clP cCl) := by
  refine known_frz fits ?_
  intro xs T v T1 h
  unfold clP at h
  split at h
  · rename_i nl cl z l
    simp only [List.mem_cons, List.not_mem_nil, or_false, Prod.mk.injEq, Bool.true_eq, cCl, decide_eq_true_eq] at h
    obtain ⟨⟨h1, h2⟩, rfl, rfl⟩ := h
    have hr : ∀ ys ∈ [[IV.fsl (some false) cl z l]], ∃ n v0 T2 v1 fr, callK Try.prog hint (tab []) (fun _ _ => none) n 42 ys [] (fun v T => some (v, T)) = some (v0, T2) ∧ frz T2 v0 = some (v1, fr) ∧ Wk v1 (.fsl none false 1 l) := by
      intro ys hy
      rw [List.mem_singleton] at hy
      subst hy
      refine ⟨30, .osl 0 0, [.row 0 false 1 l], .fsl none false 1 l, [0], (cl_one cl z l).trans ?_, rfl, ?_⟩
      · exact bif_step (decide_eq_true h1) (bif_step (decide_eq_true (by rw [roomB_nat, maxLen_val]; omega)) rfl)
      · exact Wk.fsl (by rfl) (.inl rfl) (by simp) (.inl rfl)
    refine ⟨rfl, rfl, _, ?_, Splits.nil1, ?_⟩
    · split <;> simp
    intro ys hy
    split at hy
    · rename_i hl
      subst hl
      rcases List.mem_cons.1 hy with rfl | hy
      · refine ⟨noGd_of rfl, tab [], fun _ _ => none, tab_nil, loops_none, 30, .fsl (some true) true 0 [], [], .fsl (some true) true 0 [], [], (cl_nil cl z).trans rfl, rfl, ?_⟩
        exact Wk.fsl rfl (.inl rfl) (by simp) (.inr rfl)
      · obtain ⟨n, v0, T2, v1, fr, q⟩ := hr ys hy
        rw [List.mem_singleton] at hy
        subst hy
        exact ⟨noGd_of rfl, tab [], fun _ _ => none, tab_nil, loops_none, n, v0, T2, v1, fr, q⟩
    · obtain ⟨n, v0, T2, v1, fr, q⟩ := hr ys hy
      rw [List.mem_singleton] at hy
      subst hy
      exact ⟨noGd_of rfl, tab [], fun _ _ => none, tab_nil, loops_none, n, v0, T2, v1, fr, q⟩
  · cases h

/-! ### Fixed calls -/
abbrev tabA : FuncId → Option SpecF := tab [(42, clP cCl)]
theorem tabA_ok : ∀ f F, tabA f = some F → Known Try.prog hint f F := tab_cons clone_known tab_nil
theorem alive_known : Known Try.prog hint 10 (constF (.bool true)) := known_const fits tabA_ok (k := 60) (by kernel_rfl)

/-! ### Many -/
def gMany (t : Int) : Bool := bif t == (48 : Int) then true else t == (49 : Int)
theorem many_known : Known Try.prog hint 47 (manyP gMany) := by
  refine known_of fits (spec := tab []) tab_nil loops_none ?_
  (intro xs T v T1 h; unfold manyP at h; split at h; rotate_left; · cases h)
  rename_i t
  (simp only [List.mem_cons, List.not_mem_nil, or_false, Prod.mk.injEq, Bool.true_eq, Bool.and_eq_true, decide_eq_true_eq] at h; obtain ⟨h1, rfl, rfl⟩ := h)
  exact ⟨30, many_tree t⟩

/-! ### Texts -/
def badC (c : UInt8) : Bool := decide (c.toNat < 32) || decide (126 < c.toNat)
def cIx (z : Nat) (l : List IV) : Bool := decide ((z = 1 ∨ l.length = 0) ∧ l.length ≤ 140737488355328) && okB l
def gIx (l : List IV) : Int := match (toBytes l).findIdx? badC with
  | none => -1
  | some i => (i : Int)
end
end Go.Proofs.Ytolpgbgmldpneaa
