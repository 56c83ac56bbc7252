/- Values written, copied, and held against each other. It bears no condition. -/
import Derived.Test.YtolpgbgmldpneaaDrX
namespace Go.Proofs.Ytolpgbgmldpneaa
open Go Go.Im
set_option linter.unusedVariables false
set_option linter.unusedSimpArgs false
set_option maxRecDepth 20000
noncomputable section

theorem gWr_bad {x : IV} (h : gRight x = false) : gWr x = [] ∧ gWe x = 3 := by unfold gWr gWe; rw [h]; exact ⟨rfl, rfl⟩
theorem gWr_long {x : IV} (h : gRight x = true) (hl : ¬ (ndOf x).wr.length ≤ 65535) : gWr x = [] ∧ gWe x = 2 := by unfold gWr gWe; rw [h, decide_eq_false hl]; exact ⟨rfl, rfl⟩
theorem gWr_ok {x : IV} (h : gRight x = true) (hl : (ndOf x).wr.length ≤ 65535) : gWr x = gPut x ∧ gWe x = 0 := by unfold gWr gWe gPut; rw [h, decide_eq_true hl]; exact ⟨rfl, rfl⟩
theorem write_known : Known Try.prog hint 12 (wrP cN gWr gWe) := by
  refine known_weak fits (spec := tab [(14, welP cN gRight), (33, putP (fun zo o x => decide ((zo = 1 ∨ o.length = 0) ∧ o.length ≤ 100000000) && cN x) gPut)]) (tab_cons right_known (tab_cons put_known tab_nil)) loops_none ?_
  intro xs T v T1 h
  unfold wrP at h
  split at h
  case h_2 => cases h
  rename_i t n1 c1 z1 bs n2 c2 z2 ks
  simp only [List.mem_cons, List.not_mem_nil, or_false, Prod.mk.injEq, Bool.true_eq] at h
  obtain ⟨h1, rfl, rfl⟩ := h
  refine ⟨noGd_of rfl, 30, ?_⟩
  have ht := write_tree cN gRight (fun zo o x => decide ((zo = 1 ∨ o.length = 0) ∧ o.length ≤ 100000000) && cN x) gPut t n1 c1 z1 bs n2 c2 z2 ks
  cases hr : gRight (ndV t n1 c1 z1 bs n2 c2 z2 ks)
  · obtain ⟨e1, e2⟩ := gWr_bad hr
    rw [e1, e2]
    exact ⟨_, wk_tup nil_fsl, ht.trans (bif_step h1 (bif_step (by rw [hr]; rfl) rfl))⟩
  · have hlen : ([] ++ gPut (ndV t n1 c1 z1 bs n2 c2 z2 ks)).length = (ndOf (ndV t n1 c1 z1 bs n2 c2 z2 ks)).wr.length := by
      unfold gPut; rw [List.nil_append, u8s_len]
    rw [hlen] at ht
    by_cases hl : (ndOf (ndV t n1 c1 z1 bs n2 c2 z2 ks)).wr.length ≤ 65535
    · obtain ⟨e1, e2⟩ := gWr_ok hr hl
      rw [e1, e2]
      exact ⟨_, Wk.refl _, ht.trans (bif_step h1 (bif_stepF (by rw [hr]; rfl) (bif_step (cPut0 h1) (bif_stepF (decide_eq_false (by omega)) rfl))))⟩
    · obtain ⟨e1, e2⟩ := gWr_long hr hl
      rw [e1, e2]
      exact ⟨_, wk_tup nil_fsl, ht.trans (bif_step h1 (bif_stepF (by rw [hr]; rfl) (bif_step (cPut0 h1) (bif_step (decide_eq_true (by omega)) rfl))))⟩
/-! ### Copy -/
mutual
def ndIV : Nd → IV
  | .mk t b ks => ndV t none false 1 (u8s b) none false 3 (ndIVs ks)
def ndIVs : List Nd → List IV
  | [] => []
  | k :: ks => ndIV k :: ndIVs ks
end
theorem ndIVs_map : ∀ ks : List Nd, ndIVs ks = ks.map ndIV
  | [] => rfl
  | k :: ks => by unfold ndIVs; rw [ndIVs_map ks]; rfl
theorem ndIV_mk (N : Nd) : ndIV N = ndV N.tag none false 1 (u8s N.bytes) none false 3 (N.kids.map ndIV) := by cases N; unfold ndIV; rw [ndIVs_map]; rfl
end
end Go.Proofs.Ytolpgbgmldpneaa
