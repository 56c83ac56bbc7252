/- Values written, copied, and held against each other. It bears no condition. -/
import Derived.Test.YtolpgbgmldpneaaDrX
namespace Go.Proofs.Ytolpgbgmldpneaa
open Go Go.Im
set_option linter.unusedVariables false
set_option linter.unusedSimpArgs false
set_option maxRecDepth 20000
noncomputable section

theorem gWr_bad {x : IV} (h : gRight x = false) : gWr x = [] ∧ gWe x = 3 := by unfold gWr gWe; rw [h]; exact ⟨rfl, rfl⟩
theorem gWr_long {x : IV} (h : gRight x = true) (hl : ¬ (ndOf x).wr.length ≤ 65535) : gWr x = [] ∧ gWe x = 2 := by unfold gWr gWe; rw [h, decide_eq_false hl]; exact ⟨rfl, rfl⟩
theorem gWr_ok {x : IV} (h : gRight x = true) (hl : (ndOf x).wr.length ≤ 65535) : gWr x = gPut x ∧ gWe x = 0 := by unfold gWr gWe gPut; rw [h, decide_eq_true hl]; exact ⟨rfl, rfl⟩
theorem write_known : Known Try.prog hint 12 (wrP cN gWr gWe) := by
  refine known_weak fits (spec := tab [(14, welP cN gRight), (33, putP (fun zo o x => decide ((zo = 1 ∨ o.length = 0) ∧ o.length ≤ 100000000) && cN x) gPut)]) (tab_cons right_known (tab_cons put_known tab_nil)) loops_none ?_
  intro xs T v T1 h
  unfold wrP at h
  split at h
  case h_2 => cases h
  rename_i t n1 c1 z1 bs n2 c2 z2 ks
  simp only [List.mem_cons, List.not_mem_nil, or_false, Prod.mk.injEq, Bool.true_eq] at h
  obtain ⟨h1, rfl, rfl⟩ := h
  refine ⟨noGd_of rfl, 30, ?_⟩
  have ht := write_tree cN gRight (fun zo o x => decide ((zo = 1 ∨ o.length = 0) ∧ o.length ≤ 100000000) && cN x) gPut t n1 c1 z1 bs n2 c2 z2 ks
  cases hr : gRight (ndV t n1 c1 z1 bs n2 c2 z2 ks)
  · obtain ⟨e1, e2⟩ := gWr_bad hr
    rw [e1, e2]
    exact ⟨_, wk_tup nil_fsl, ht.trans (bif_step h1 (bif_step (by rw [hr]; rfl) rfl))⟩
  · have hlen : ([] ++ gPut (ndV t n1 c1 z1 bs n2 c2 z2 ks)).length = (ndOf (ndV t n1 c1 z1 bs n2 c2 z2 ks)).wr.length := by
      unfold gPut; rw [List.nil_append, u8s_len]
    rw [hlen] at ht
    by_cases hl : (ndOf (ndV t n1 c1 z1 bs n2 c2 z2 ks)).wr.length ≤ 65535
    · obtain ⟨e1, e2⟩ := gWr_ok hr hl
      rw [e1, e2]
      exact ⟨_, Wk.refl _, ht.trans (bif_step h1 (bif_stepF (by rw [hr]; rfl) (bif_step (cPut0 h1) (bif_stepF (decide_eq_false (by omega)) rfl))))⟩
    · obtain ⟨e1, e2⟩ := gWr_long hr hl
      rw [e1, e2]
      exact ⟨_, wk_tup nil_fsl, ht.trans (bif_step h1 (bif_stepF (by rw [hr]; rfl) (bif_step (cPut0 h1) (bif_step (decide_eq_true (by omega)) rfl))))⟩
theorem rwrite_known : Known Try.prog hint 13 (wrP cN gWr gWe) := by
  refine known_weak fits (spec := tab [(15, welP cN gRight), (34, boP cN gPut)]) (tab_cons rright_known (tab_cons bytes_known tab_nil)) loops_none ?_
  intro xs T v T1 h
  unfold wrP at h
  split at h
  case h_2 => cases h
  rename_i t n1 c1 z1 bs n2 c2 z2 ks
  simp only [List.mem_cons, List.not_mem_nil, or_false, Prod.mk.injEq, Bool.true_eq] at h
  obtain ⟨h1, rfl, rfl⟩ := h
  refine ⟨noGd_of rfl, 30, ?_⟩
  have ht := rwrite_tree cN gRight cN gPut t n1 c1 z1 bs n2 c2 z2 ks
  cases hr : gRight (ndV t n1 c1 z1 bs n2 c2 z2 ks)
  · obtain ⟨e1, e2⟩ := gWr_bad hr
    rw [e1, e2]
    exact ⟨_, wk_tup nil_fsl, ht.trans (bif_step h1 (bif_step (by rw [hr]; rfl) rfl))⟩
  · have hlen : (gPut (ndV t n1 c1 z1 bs n2 c2 z2 ks)).length = (ndOf (ndV t n1 c1 z1 bs n2 c2 z2 ks)).wr.length := by
      unfold gPut; rw [u8s_len]
    rw [hlen] at ht
    by_cases hl : (ndOf (ndV t n1 c1 z1 bs n2 c2 z2 ks)).wr.length ≤ 65535
    · obtain ⟨e1, e2⟩ := gWr_ok hr hl
      rw [e1, e2]
      exact ⟨_, Wk.refl _, ht.trans (bif_step h1 (bif_stepF (by rw [hr]; rfl) (bif_step h1 (bif_stepF (decide_eq_false (by omega)) rfl))))⟩
    · obtain ⟨e1, e2⟩ := gWr_long hr hl
      rw [e1, e2]
      exact ⟨_, wk_tup nil_fsl, ht.trans (bif_step h1 (bif_stepF (by rw [hr]; rfl) (bif_step h1 (bif_step (decide_eq_true (by omega)) rfl))))⟩

/-! ### Copy -/
mutual
def ndIV : Nd → IV
  | .mk t b ks => ndV t none false 1 (u8s b) none false 3 (ndIVs ks)
def ndIVs : List Nd → List IV
  | [] => []
  | k :: ks => ndIV k :: ndIVs ks
end
theorem ndIVs_map : ∀ ks : List Nd, ndIVs ks = ks.map ndIV
  | [] => rfl
  | k :: ks => by unfold ndIVs; rw [ndIVs_map ks]; rfl
theorem ndIV_mk (N : Nd) : ndIV N = ndV N.tag none false 1 (u8s N.bytes) none false 3 (N.kids.map ndIV) := by cases N; unfold ndIV; rw [ndIVs_map]; rfl
def gCp (x : IV) : List IV := (ndOf x).kids.map ndIV
theorem cp_runs {d : Nat} {t : Int} {n1 : Option Bool} {c1 : Bool} {z1 : Nat} {bs : List IV} {n2 : Option Bool} {c2 : Bool} {z2 : Nat} {ks : List IV} (hz : z2 = 3 ∨ ks = []) (hk : ∀ k ∈ ks, cD d k = true ∧ okNd k = true) (hl : ks.length ≤ 100000000) : ∀ (m i : Nat), i + m = ks.length →
    Runs Try.prog hint (acall Try.prog hint (ovrOf (tab [(11, cpP (cD d) gCp)]))) 0 (hint.kp 11) (loopAt Try.prog 11 122) (Sx 11 [.ptr 0 0, .ptr 1 0, .ptr 2 0, .int .i64 (i : Int)] (cpB t n1 c1 z1 bs n2 c2 z2 ks (((ks.take i).map ndOf).map ndIV))) (.exit 0)
      (Sx 11 [.ptr 0 0, .ptr 1 0, .ptr 2 0, .int .i64 (ks.length : Int)] (cpB t n1 c1 z1 bs n2 c2 z2 ks ((ks.map ndOf).map ndIV)))
  | 0, i, hi => by
    obtain rfl : i = ks.length := by omega
    rw [List.take_length]
    have ht := cp_in (cD d) gCp t n1 c1 z1 bs n2 c2 z2 ks ((ks.map ndOf).map ndIV) ks.length
    exact Runs.last (n := 30) (ls := fun _ _ => none) loops_none inner0 (by simp) (ht.trans (bif_stepF (decide_eq_false (by omega)) rfl))
  | m + 1, i, hi => by
    have hi' : i < ks.length := by omega
    obtain ⟨k1, k2⟩ := hk _ (List.getElem_mem hi')
    have hz3 : z2 = 3 := hz.resolve_right fun h => by rw [h] at hi'; simp at hi'
    have ht := cp_in (cD d) gCp t n1 c1 z1 bs n2 c2 z2 ks (((ks.take i).map ndOf).map ndIV) i
    have hkid : IV.agg [.int .i64 (intOf (nthD ks[i].cells 0)), .fsl none false 1 (rowL (nthD ks[i].cells 1)), .fsl none false 3 (gCp ks[i])] = ndIV (ndOf ks[i]) := by
      obtain ⟨m1, e1, y1, m2, e2, y2, ks', hx, hkk, _⟩ := okNd_iff k2
      rw [ndIV_mk]
      have q0 : intOf (nthD ks[i].cells 0) = (ndOf ks[i]).tag := (congrArg (fun y => intOf (nthD y.cells 0)) hx).trans (Eq.trans rfl rfl)
      have q1 : rowL (nthD ks[i].cells 1) = u8s (ndOf ks[i]).bytes := (congrArg (fun y => rowL (nthD y.cells 1)) hx).trans (Eq.trans rfl rfl)
      rw [q0, q1]
      rfl
    rw [nthD_at hi', kdV_eq k2, kdT k2, hkid, wadd1 (by omega)] at ht
    have e4 : ((ks.take (i + 1)).map ndOf).map ndIV = ((ks.take i).map ndOf).map ndIV ++ [ndIV (ndOf ks[i])] := by
      rw [List.take_succ_eq_append_getElem hi', List.map_append, List.map_append]; rfl
    have ih := cp_runs hz hk hl (t := t) (n1 := n1) (c1 := c1) (z1 := z1) (bs := bs) (n2 := n2) (c2 := c2) m (i + 1) (by omega)
    rw [e4] at ih
    refine Runs.step (n := 30) (ls := fun _ _ => none) loops_none inner0 (ht.trans (bif_step (decide_eq_true (by omega)) (bif_step (decide_eq_true ⟨hz3, by omega, by omega⟩) (bif_step rfl (bif_step k1 (bif_step (decide_eq_true ?_) rfl)))))) ih
    rw [roomB_nat, maxLen_val, List.length_map, List.length_map, List.length_take]
    simp only [List.length_cons, List.length_nil]
    omega
theorem cp_d : ∀ d : Nat, Known Try.prog hint 11 (cpP (cD d) gCp)
  | 0 => known_each fun xs T v T1 h => by
    exfalso
    unfold cpP at h
    split at h
    · simp only [List.mem_cons, List.not_mem_nil, or_false, Prod.mk.injEq, Bool.true_eq] at h
      exact no_d0 h.1
    · cases h
  | d + 1 => by
    have ih := cp_d d
    refine known_rfrz fits fun us T v T1 h => ?_
    unfold cpP at h
    split at h
    case h_2 => cases h
    rename_i t n1 c1 z1 bs n2 c2 z2 ks
    simp only [List.mem_cons, List.not_mem_nil, or_false, Prod.mk.injEq, Bool.true_eq] at h
    obtain ⟨h3, rfl, rfl⟩ := h
    obtain ⟨N, hN, rfl, rfl, hk, hkk, hz1, hz2, hsz, hll⟩ := nd_open h3
    refine ⟨rfl, rfl, [[.agg [.int .i64 N.tag, .fsl n1 c1 z1 (u8s N.bytes), .fsl n2 c2 z2 ks]]], by simp, Splits.self _, fun ys hy => ?_⟩
    rw [List.mem_singleton] at hy
    subst hy
    have q := cp_runs (d := d) (t := N.tag) (n1 := n1) (c1 := c1) (z1 := z1) (bs := u8s N.bytes) (n2 := n2) (c2 := c2) hz2 hkk (by omega) ks.length 0 (by omega)
    simp only [List.take_zero, List.map_nil] at q
    have hg : gCp (ndV N.tag n1 c1 z1 (u8s N.bytes) n2 c2 z2 ks) = (ks.map ndOf).map ndIV := by unfold gCp; rw [hN, hk]
    rw [hg]
    have hls : LoopsOK Try.prog hint (acall Try.prog hint (ovrOf (tab [(11, cpP (cD d) gCp)]))) (ltab [(11, 122, LF 11 0 (oneF [.ptr 0 0, .ptr 1 0, .ptr 2 0, .int .i64 0] (cpB N.tag n1 c1 z1 (u8s N.bytes) n2 c2 z2 ks []) (.exit 0) [.ptr 0 0, .ptr 1 0, .ptr 2 0, .int .i64 (ks.length : Int)] (cpB N.tag n1 c1 z1 (u8s N.bytes) n2 c2 z2 ks ((ks.map ndOf).map ndIV))))]) := by
      refine ltab_cons (by kernel_rfl) (loopF_ok fun vs bx e vs' bx' hm => ?_) ltab_nil
      obtain ⟨rfl, rfl, rfl, rfl, rfl⟩ := oneF_mem hm
      exact q
    refine ⟨noGd_of rfl, _, _, tab_cons ih tab_nil, hls, 30, .agg [.int .i64 N.tag, .osl 0 0, .osl 1 0], [.row 0 false 1 (u8s N.bytes), .row 0 false 3 ((ks.map ndOf).map ndIV)], ndV N.tag none false 1 (u8s N.bytes) none false 3 ((ks.map ndOf).map ndIV), [0, 1],
      (cp_call (cD d) gCp N.tag n1 c1 z1 (u8s N.bytes) n2 c2 z2 ks ((ks.map ndOf).map ndIV) ks.length).trans (bif_step (decide_eq_true ?_) (bif_step (decide_eq_true ?_) (bif_step sameS_t rfl))), rfl, Wk.refl _⟩
    · exact hz1.imp id fun h => by rw [h]; rfl
    · rw [roomB_nat, maxLen_val, u8s_len]; omega
theorem copy_known : Known Try.prog hint 11 (cpP cN gCp) := known_each fun xs T v T1 h => by
  unfold cpP at h
  split at h
  case h_2 => cases h
  rename_i t n1 c1 z1 bs n2 c2 z2 ks
  simp only [List.mem_cons, List.not_mem_nil, or_false, Prod.mk.injEq, Bool.true_eq] at h
  obtain ⟨h2, rfl, rfl⟩ := h
  refine ⟨_, cp_d (ndOf (ndV t n1 c1 z1 bs n2 c2 z2 ks)).dp, ?_⟩
  unfold cpP
  simp only [cD_self h2]
end
end Go.Proofs.Ytolpgbgmldpneaa
