/- Values' bytes: the document's bytes, the whole call. It bears no condition. -/
import Derived.Test.YtolpgbgmldpneaaDrM
namespace Go.Proofs.Ytolpgbgmldpneaa
open Go Go.Im
set_option linter.unusedVariables false
set_option linter.unusedSimpArgs false
set_option maxRecDepth 20000
noncomputable section

abbrev boT' (d : Nat) : FuncId → Option SpecF := boT (cD d) gPut cRl gLen
theorem bo_runs {d : Nat} {t : Int} {n1 : Option Bool} {c1 : Bool} {z1 : Nat} {b : List UInt8} {n2 : Option Bool} {c2 : Bool} {z2 : Nat} {ks : List IV} (h4 : z2 = 3 ∨ ks = []) (hk : ∀ k ∈ ks, cD d k = true ∧ okNd k = true) (hs : b.length + szs (ks.map ndOf) ≤ 100000000) (hl : ks.length ≤ 100000000) : ∀ (m i : Nat), i + m = ks.length →
    Runs Try.prog hint (acall Try.prog hint (ovrOf (boT' d))) 0 (hint.kp 34) (loopAt Try.prog 34 122) (Sx 34 [.ptr 0 0, .osl 1 0, .int .i64 (i : Int)] (ndB t n1 c1 z1 (u8s b) n2 c2 z2 ks ++ [.row 0 false 1 (u8s (b ++ wrs ((ks.take i).map ndOf)))])) (.exit 0)
      (Sx 34 [.ptr 0 0, .osl 1 0, .int .i64 (ks.length : Int)] (ndB t n1 c1 z1 (u8s b) n2 c2 z2 ks ++ [.row 0 false 1 (u8s (b ++ wrs (ks.map ndOf)))]))
  | 0, i, hi => by
    obtain rfl : i = ks.length := by omega
    rw [List.take_length]
    have ht := bo_in (cD d) gPut cRl gLen (u8s (b ++ wrs (ks.map ndOf))) t n1 c1 z1 (u8s b) n2 c2 z2 ks ks.length
    exact Runs.last (n := 30) (ls := fun _ _ => none) loops_none inner0 (by simp) (ht.trans (bif_stepF (decide_eq_false (by omega)) rfl))
  | m + 1, i, hi => by
    have hi' : i < ks.length := by omega
    obtain ⟨hki, hok⟩ := hk _ (List.getElem_mem hi')
    obtain ⟨e1, e2⟩ := kid_cells hok
    have hz2 : z2 = 3 := h4.resolve_right fun h => by rw [h] at hi'; simp at hi'
    have ht := bo_in (cD d) gPut cRl gLen (u8s (b ++ wrs ((ks.take i).map ndOf))) t n1 c1 z1 (u8s b) n2 c2 z2 ks i
    rw [nthD_at hi', e1, e2, wadd1 (by omega)] at ht
    have e4 : b ++ wrs ((ks.take (i + 1)).map ndOf) = (b ++ wrs ((ks.take i).map ndOf)) ++ (ndOf ks[i]).wr := by
      rw [List.take_succ_eq_append_getElem hi', List.map_append, wrs_app, List.append_assoc]
      simp [wrs]
    have hbl : (b ++ wrs ((ks.take i).map ndOf)).length + (ndOf ks[i]).wr.length ≤ 100000000 := by
      rw [← List.length_append, ← e4]
      have h1 := wrs_len ((ks.take (i + 1)).map ndOf)
      have h2 : szs (ks.map ndOf) = szs ((ks.take (i + 1)).map ndOf) + szs ((ks.drop (i + 1)).map ndOf) := by rw [← szs_app, ← List.map_append, List.take_append_drop]
      rw [List.length_append]
      omega
    have ih := bo_runs h4 hk hs hl (t := t) (n1 := n1) (c1 := c1) (z1 := z1) (n2 := n2) (c2 := c2) m (i + 1) (by omega)
    rw [e4, u8s_app] at ih
    refine Runs.step (n := 30) (ls := fun _ _ => none) loops_none inner0 (ht.trans (bif_step (decide_eq_true (by omega)) (bif_step (decide_eq_true ⟨hz2, by omega, by omega⟩) (bif_step rfl (bif_step hki (bif_step (decide_eq_true ?_) rfl)))))) ih
    unfold gPut
    rw [roomB_nat, maxLen_val, u8s_len, u8s_len]
    omega
theorem bo_d : ∀ d : Nat, Known Try.prog hint 34 (boP (cD d) gPut)
  | 0 => known_each fun xs T v T1 h => by
    exfalso
    unfold boP at h
    split at h
    · simp only [List.mem_cons, List.not_mem_nil, or_false, Prod.mk.injEq, Bool.true_eq] at h
      exact no_d0 h.1
    · cases h
  | d + 1 => by
    have ih := bo_d d
    refine known_rfrz fits fun us T v T1 h => ?_
    unfold boP at h
    split at h
    case h_2 => cases h
    rename_i t n1 c1 z1 bs n2 c2 z2 ks
    simp only [List.mem_cons, List.not_mem_nil, or_false, Prod.mk.injEq, Bool.true_eq] at h
    obtain ⟨h3, rfl, rfl⟩ := h
    obtain ⟨N, hN, rfl, rfl, hk, hkk, hz1, hz2, hsz, hll⟩ := nd_open h3
    refine ⟨rfl, rfl, [[.agg [.int .i64 N.tag, .fsl n1 c1 z1 (u8s N.bytes), .fsl n2 c2 z2 ks]]], by simp, Splits.self _, fun ys hy => ?_⟩
    rw [List.mem_singleton] at hy
    subst hy
    have q := bo_runs (d := d) (t := N.tag) (n1 := n1) (c1 := c1) (z1 := z1) (b := N.bytes) (n2 := n2) (c2 := c2) hz2 hkk (by omega) (by omega) ks.length 0 (by omega)
    simp only [List.take_zero, List.map_nil, wrs, List.append_nil] at q
    have hwl := wrs_len (ks.map ndOf)
    have hls : LoopsOK Try.prog hint (acall Try.prog hint (ovrOf (boT' d))) (ltab [(34, 122, LF 34 0 (oneF [.ptr 0 0, .osl 1 0, .int .i64 0] (ndB N.tag n1 c1 z1 (u8s N.bytes) n2 c2 z2 ks ++ [.row 0 false 1 (u8s N.bytes)]) (.exit 0) [.ptr 0 0, .osl 1 0, .int .i64 (ks.length : Int)] (ndB N.tag n1 c1 z1 (u8s N.bytes) n2 c2 z2 ks ++ [.row 0 false 1 (u8s (N.bytes ++ wrs (ks.map ndOf)))])))]) := by
      refine ltab_cons (by kernel_rfl) (loopF_ok fun vs bx e vs' bx' hm => ?_) ltab_nil
      obtain ⟨rfl, rfl, rfl, rfl, rfl⟩ := oneF_mem hm
      exact q
    have hb := bo_call (cD d) gPut cRl gLen (u8s (N.bytes ++ wrs (ks.map ndOf))) N.tag n1 c1 z1 (u8s N.bytes) n2 c2 z2 ks
    have hlen : (N.bytes ++ wrs (ks.map ndOf)).length ≤ 100000000 := by rw [List.length_append]; omega
    have hgl : gLen (((u8s (N.bytes ++ wrs (ks.map ndOf))).length : Nat) : Int) = u8s (lenB (N.bytes ++ wrs (ks.map ndOf)).length) := by unfold gLen; rw [Int.toNat_natCast, u8s_len]
    have hl5 := lenB_len (N.bytes ++ wrs (ks.map ndOf)).length
    have hc0 : IV.int IntKind.u8 (IntKind.u8.wrap N.tag) :: (gLen (((u8s (N.bytes ++ wrs (ks.map ndOf))).length : Nat) : Int) ++ u8s (N.bytes ++ wrs (ks.map ndOf))) = gPut (ndV N.tag n1 c1 z1 (u8s N.bytes) n2 c2 z2 ks) := by
      unfold gPut
      rw [hN, wr_mk, hk, hgl, iv_u8, u8s_cons]
      congr 1
      exact (u8s_app _ _).symm
    rw [hc0] at hb
    refine ⟨noGd_of rfl, boT' d, _, tab_cons ih (tab_cons rlength_known tab_nil), hls, 30, .osl 0 0, [.row 0 false 1 _], .fsl none false 1 _, [0], hb.trans (bif_step (decide_eq_true ?_) (bif_step (decide_eq_true ?_) (bif_step sameS_t (bif_step ?_ (bif_step (decide_eq_true ?_) (bif_step (decide_eq_true ?_) rfl)))))), rfl, Wk.refl _⟩
    · exact hz1.imp id fun h => by rw [h]; rfl
    · rw [roomB_nat, maxLen_val, u8s_len]; omega
    · unfold cRl
      rw [u8s_len]
      exact decide_eq_true ⟨by omega, by omega⟩
    · rw [hgl, roomB_nat, maxLen_val, u8s_len]
      simp only [List.nil_append, List.length_cons, List.length_nil]
      omega
    · rw [hgl, roomB_nat, maxLen_val, List.length_append, u8s_len, u8s_len]
      simp only [List.nil_append, List.length_cons, List.length_nil]
      omega
theorem bytes_known : Known Try.prog hint 34 (boP cN gPut) := known_each fun xs T v T1 h => by
  unfold boP at h
  split at h
  case h_2 => cases h
  rename_i t n1 c1 z1 bs n2 c2 z2 ks
  simp only [List.mem_cons, List.not_mem_nil, or_false, Prod.mk.injEq, Bool.true_eq] at h
  obtain ⟨h2, rfl, rfl⟩ := h
  refine ⟨_, bo_d (ndOf (ndV t n1 c1 z1 bs n2 c2 z2 ks)).dp, ?_⟩
  unfold boP
  simp only [cD_self h2]

/-! ### How many, how deep -/
mutual
/-- How many there are, counted till there are too many; and how deep. -/
def Nd.cnt : Nd → Int → Int × Int
  | .mk _ _ ks, m => cnts ks m 1 1
def cnts : List Nd → Int → Int → Int → Int × Int
  | [], _, s, d => (s, d)
  | k :: ks, m, s, d => bif decide (s ≤ m) then cnts ks m (s + (k.cnt (m - s)).1) (bif decide ((k.cnt (m - s)).2 ≥ d) then (k.cnt (m - s)).2 + 1 else d) else (s, d)
end
end
end Go.Proofs.Ytolpgbgmldpneaa
