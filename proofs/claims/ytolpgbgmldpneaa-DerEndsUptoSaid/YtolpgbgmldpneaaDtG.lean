/- A function that calls itself, is handed blocks, and whose answer is frozen. It bears no condition. -/
import Derived.Test.YtolpgbgmldpneaaIm5
import Derived.Test.YtolpgbgmldpneaaDtD
namespace Go.Proofs.Ytolpgbgmldpneaa
open Go Go.Im
set_option linter.unusedVariables false
noncomputable section
variable {P : Program} {H : Hint}
theorem known_rfrzT (hP : Fits P) {f : FuncId} {F : SpecF}
    (h : ∀ xs T v T1, (true, v, T1) ∈ F xs T → ∃ alts, alts ≠ [] ∧ Splits xs alts ∧ ∀ ys ∈ alts, NoGd ys ∧ ∃ (spec : FuncId → Option SpecF) (ls : FuncId → Nat → Option LoopF), (∀ f F, spec f = some F → Known P H f F) ∧ LoopsOK P H (acall P H (ovrOf spec)) ls ∧
      ∃ n v0 T2 v1 fr, bodyK P H spec ls n f ys T (fun v T => some (v, T)) = some (v0, T2) ∧ frz T2 v0 = some (v1, fr) ∧ (List.range T.length).map (renB false T.length (idx (List.range T.length)) (shut T2 fr)) = T1 ∧ Wk v1 v) : Known P H f F := by
  intro g xs T r T1 hr
  simp only at hr
  split at hr
  · rename_i hg
    subst hg
    obtain ⟨⟨t, v, T2⟩, hF, e⟩ := Option.map_eq_some_iff.1 hr
    · cases e
      have ht := List.find?_some hF
      simp only at ht
      subst ht
      obtain ⟨alts, hne, hsp, hall⟩ := h xs T _ _ (List.mem_of_find?_eq_some hF)
      have run : ∀ ys ∈ alts, NoGd ys ∧ ∃ v0 T2 v1 fr, frz T2 v0 = some (v1, fr) ∧ (List.range T.length).map (renB false T.length (idx (List.range T.length)) (shut T2 fr)) = T1 ∧ Wk v1 r ∧ (∃ fn, P.funcs[g]? = some fn ∧ fn.name ≠ "runtime.NumGoroutine" ∧ fn.body.isSome = true) ∧
          ∀ (Γ : Cx) (w : World) (vs : List Value), Inv Γ w → Γ.T = T → GlOK H Γ w → RepL Γ w ys vs → NoGd ys → Calls P g vs.toArray w fun e w' => ∃ v Γ', e = .returned v ∧ Γ'.T = T2 ∧ Fr T.length Γ w Γ' w' ∧ Rep Γ' w' v0 v := by
        intro ys hy
        obtain ⟨hng, spec, ls, hs, hls, n, v0, T2, v1, fr, hn, hf, hT2, hw⟩ := hall ys hy
        obtain ⟨v, T3, ⟨m, hm⟩, h2⟩ := bodyK_ok hls hn
        cases h2
        exact ⟨hng, _, _, _, _, hf, hT2, hw, body_ok hP.order hP.small hP.quiet (sound hP.order hP.small hP.quiet (ovr_ok hs) m) m g ys T _ _ (hm m (Nat.le_refl _))⟩
      obtain ⟨y0, ys0, rfl⟩ : ∃ y0 ys0, alts = y0 :: ys0 := List.exists_cons_of_ne_nil hne
      refine ⟨?_, fun Γ w vs hi hT hgl hrl hng => ?_⟩
      · obtain ⟨_, v0, _, _, _, _, _, _, h1, _⟩ := run y0 List.mem_cons_self
        exact h1
      · obtain ⟨ys, hy, hyr⟩ := hsp Γ w vs hrl
        obtain ⟨hng', v0, T2, v1, fr, hf, hT2, hw, _, h1⟩ := run ys hy
        refine Calls.mono (h1 Γ w vs hi hT hgl hyr hng') ?_
        rintro e w' ⟨u, Γ', h3, h4, hfr, hrv⟩
        subst h4
        have hfz := frz_rep (bs' := fr) hfr.inv v0 v1 fr u hf (fun _ h => h) hrv
        have F1 := hfr.step (step_shut hfr.inv fr)
        have F2 := F1.sub (bp := false) (q := T.length) (bs := List.range T.length) List.nodup_range (Nat.le_refl _) (prefix_range (List.prefix_refl _))
        exact ⟨u, _, h3, hT2, F2, hw _ w' u (repC_rep (Γ := (Γ'.shut fr).sub false T.length (List.range T.length)) _ _ hfz)⟩
  · cases hr
end
end Go.Proofs.Ytolpgbgmldpneaa
