/- DerNumbers runs. It bears no condition. -/
import Derived.Test.YtolpgbgmldpneaaDuP
namespace Go.Proofs.Ytolpgbgmldpneaa
open Go Go.Im
set_option linter.unusedVariables false
set_option linter.unusedSimpArgs false
set_option maxRecDepth 20000
noncomputable section

/-! ### Values of any size -/
mutual
def Nd.kl : Nd → Bool
  | .mk _ b ks => decide (b.length ≤ 140737488351232) && decide (ks.length ≤ 140737488351232) && kls ks
def kls : List Nd → Bool
  | [] => true
  | k :: ks => k.kl && kls ks
end
theorem kl_mk (n : Nd) : n.kl = (decide (n.bytes.length ≤ 140737488351232) && decide (n.kids.length ≤ 140737488351232) && kls n.kids) := by cases n; unfold Nd.kl; rfl
theorem kls_mem : ∀ {ks : List Nd} {k : Nd}, kls ks = true → k ∈ ks → k.kl = true
  | x :: xs, k, h, hm => by
    unfold kls at h
    rw [Bool.and_eq_true] at h
    rcases List.mem_cons.1 hm with rfl | hm
    · exact h.1
    · exact kls_mem h.2 hm
def cH (x : IV) : Bool := okNd x && (ndOf x).kl
def cHD (d : Nat) (x : IV) : Bool := cH x && decide ((ndOf x).dp ≤ d)
mutual
theorem cnt_bd : ∀ (x : Nd) (m : Int), 0 ≤ m → 1 ≤ (x.cnt m).1 ∧ (x.cnt m).1 ≤ m + 1 ∧ 1 ≤ (x.cnt m).2 ∧ (x.cnt m).2 ≤ (x.cnt m).1
  | .mk t b ks, m, h => by
    unfold Nd.cnt
    exact cnts_bd ks m 1 1 (by omega) (by omega) (by omega) (by omega)
theorem cnts_bd : ∀ (ks : List Nd) (m s e : Int), 1 ≤ s → s ≤ m + 1 → 1 ≤ e → e ≤ s → 1 ≤ (cnts ks m s e).1 ∧ (cnts ks m s e).1 ≤ m + 1 ∧ 1 ≤ (cnts ks m s e).2 ∧ (cnts ks m s e).2 ≤ (cnts ks m s e).1
  | [], m, s, e, h1, h2, h3, h4 => by
    unfold cnts
    exact ⟨h1, h2, h3, h4⟩
  | k :: ks, m, s, e, h1, h2, h3, h4 => by
    unfold cnts
    by_cases hs : s ≤ m
    · rw [decide_eq_true hs, cond_true]
      obtain ⟨a1, a2, a3, a4⟩ := cnt_bd k (m - s) (by omega)
      refine cnts_bd ks m _ _ (by omega) (by omega) ?_ ?_ <;> (cases decide ((k.cnt (m - s)).2 ≥ e) <;> simp only [cond_true, cond_false] <;> omega)
    · rw [decide_eq_false hs, cond_false]
      exact ⟨h1, h2, h3, h4⟩
end
theorem cH_kid {x k : IV} {ks : List IV} (h : cH x = true) (hk : (ndOf x).kids = ks.map ndOf) (ho : ks.all okNd = true) (hm : k ∈ ks) : cH k = true := by
  unfold cH at h ⊢
  rw [Bool.and_eq_true] at h ⊢
  refine ⟨List.all_eq_true.1 ho k hm, ?_⟩
  have h2 := h.2
  rw [kl_mk, hk] at h2
  simp only [Bool.and_eq_true] at h2
  exact kls_mem h2.2 (List.mem_map_of_mem hm)
def cHm (d : Nat) (x : IV) (m : Int) : Bool := cHD d x && decide (0 ≤ m ∧ m ≤ 1000000)
abbrev cnH (d : Nat) : FuncId → Option SpecF := tab [(32, cntP (cHm d) gCs gCd)]
theorem cnH_runs {d : Nat} {m : Int} (hm : 0 ≤ m ∧ m ≤ 1000000) {t : Int} {n1 : Option Bool} {c1 : Bool} {z1 : Nat} {bs : List IV} {n2 : Option Bool} {c2 : Bool} {z2 : Nat} {ks : List IV} (hz : z2 = 3 ∨ ks = []) (hk : ∀ k ∈ ks, cHD d k = true ∧ okNd k = true) (hl : ks.length ≤ 140737488351232) : ∀ (j i : Nat) (s e : Int), i + j = ks.length → 1 ≤ s → s ≤ m + 1 → 1 ≤ e → e ≤ s →
    ∃ i' : Int, Runs Try.prog hint (acall Try.prog hint (ovrOf (cnH d))) 0 (hint.kp 32) (loopAt Try.prog 32 58) (Sx 32 [.int .i64 m, .ptr 0 0, .int .i64 s, .int .i64 e, .int .i64 (i : Int)] (ndB t n1 c1 z1 bs n2 c2 z2 ks)) (.exit 0)
      (Sx 32 [.int .i64 m, .ptr 0 0, .int .i64 (cnts ((ks.drop i).map ndOf) m s e).1, .int .i64 (cnts ((ks.drop i).map ndOf) m s e).2, .int .i64 i'] (ndB t n1 c1 z1 bs n2 c2 z2 ks))
  | 0, i, s, e, hi, h1, h2, h3, h4 => by
    obtain rfl : i = ks.length := by omega
    rw [List.drop_length]
    refine ⟨ks.length, ?_⟩
    have ht := cnt_in (cHm d) gCs gCd m s e t n1 c1 z1 bs n2 c2 z2 ks ks.length
    refine Runs.last (n := 30) (ls := fun _ _ => none) loops_none inner0 (by simp) (ht.trans (bif_stepF ?_ rfl))
    rw [decide_eq_false (by omega)]; rfl
  | j + 1, i, s, e, hi, h1, h2, h3, h4 => by
    have hi' : i < ks.length := by omega
    obtain ⟨k1, k2⟩ := hk _ (List.getElem_mem hi')
    have hz3 : z2 = 3 := hz.resolve_right fun h => by rw [h] at hi'; simp at hi'
    have ht := cnt_in (cHm d) gCs gCd m s e t n1 c1 z1 bs n2 c2 z2 ks i
    have e1 : (ks.drop i).map ndOf = ndOf ks[i] :: (ks.drop (i + 1)).map ndOf := by rw [List.drop_eq_getElem_cons hi', List.map_cons]
    rw [e1]
    by_cases hs : s ≤ m
    · obtain ⟨a1, a2, a3, a4⟩ := cnt_bd (ndOf ks[i]) (m - s) (by omega)
      obtain ⟨x1, x2⟩ := kid_cells k2
      have w1 : IntKind.i64.wrap (m - s) = m - s := by rw [wrap_i64]; omega
      rw [nthD_at hi', x1, x2, w1, wadd1 (by omega)] at ht
      have g1 : gCs ks[i] (m - s) = ((ndOf ks[i]).cnt (m - s)).1 := rfl
      have g2 : gCd ks[i] (m - s) = ((ndOf ks[i]).cnt (m - s)).2 := rfl
      have w2 : IntKind.i64.wrap (s + gCs ks[i] (m - s)) = s + ((ndOf ks[i]).cnt (m - s)).1 := by rw [g1, wrap_i64]; omega
      have w3 : IntKind.i64.wrap (gCd ks[i] (m - s) + 1) = ((ndOf ks[i]).cnt (m - s)).2 + 1 := by rw [g2, wrap_i64]; omega
      rw [w2, w3, g2] at ht
      have hc : cHm d ks[i] (m - s) = true := by unfold cHm; rw [k1, decide_eq_true (by omega)]; rfl
      have hb : (bif decide ((i : Int) < (ks.length : Int)) then decide (s ≤ m) else false) = true := by rw [decide_eq_true (by omega), decide_eq_true hs]; rfl
      replace ht := fun r q => ht.trans (bif_step (r := r) hb (bif_step (decide_eq_true ⟨hz3, by omega, by omega⟩) (bif_step rfl (bif_step hc q))))
      have hcn : cnts (ndOf ks[i] :: (ks.drop (i + 1)).map ndOf) m s e = cnts ((ks.drop (i + 1)).map ndOf) m (s + ((ndOf ks[i]).cnt (m - s)).1) (bif decide (((ndOf ks[i]).cnt (m - s)).2 ≥ e) then ((ndOf ks[i]).cnt (m - s)).2 + 1 else e) := by
        rw [cnts, decide_eq_true hs, cond_true]
      rw [hcn]
      cases hd : decide (((ndOf ks[i]).cnt (m - s)).2 ≥ e)
      · rw [cond_false]
        obtain ⟨i', ih⟩ := cnH_runs hm hz hk hl (t := t) (n1 := n1) (c1 := c1) (z1 := z1) (bs := bs) (n2 := n2) (c2 := c2) j (i + 1) (s + ((ndOf ks[i]).cnt (m - s)).1) e (by omega) (by omega) (by omega) h3 (by omega)
        exact ⟨i', Runs.step (n := 30) (ls := fun _ _ => none) loops_none inner0 (ht _ (bif_stepF hd rfl)) ih⟩
      · rw [cond_true]
        obtain ⟨i', ih⟩ := cnH_runs hm hz hk hl (t := t) (n1 := n1) (c1 := c1) (z1 := z1) (bs := bs) (n2 := n2) (c2 := c2) j (i + 1) (s + ((ndOf ks[i]).cnt (m - s)).1) (((ndOf ks[i]).cnt (m - s)).2 + 1) (by omega) (by omega) (by omega) (by omega) (by omega)
        exact ⟨i', Runs.step (n := 30) (ls := fun _ _ => none) loops_none inner0 (ht _ (bif_step hd rfl)) ih⟩
    · have hcn : cnts (ndOf ks[i] :: (ks.drop (i + 1)).map ndOf) m s e = (s, e) := by
        rw [cnts, decide_eq_false hs, cond_false]
      rw [hcn]
      refine ⟨i, Runs.last (n := 30) (ls := fun _ _ => none) loops_none inner0 (by simp) (ht.trans (bif_stepF ?_ rfl))⟩
      rw [decide_eq_false hs]
      cases decide ((i : Int) < (ks.length : Int)) <;> rfl
theorem cnH_d : ∀ d : Nat, Known Try.prog hint 32 (cntP (cHm d) gCs gCd)
  | 0 => known_each fun xs T v T1 h => by
    exfalso
    unfold cntP at h
    split at h
    · simp only [List.mem_cons, List.not_mem_nil, or_false, Prod.mk.injEq, Bool.true_eq, cHm, cHD, Bool.and_eq_true, decide_eq_true_eq] at h
      have h2 := h.1.1.2
      rw [dp_mk] at h2
      omega
    · cases h
  | d + 1 => by
    have ih := cnH_d d
    refine known_ralt fits fun us T v T1 h => ?_
    unfold cntP at h
    split at h
    case h_2 => cases h
    rename_i t n1 c1 z1 bs n2 c2 z2 ks m
    simp only [List.mem_cons, List.not_mem_nil, or_false, Prod.mk.injEq, Bool.true_eq, cHm, cHD, Bool.and_eq_true, decide_eq_true_eq] at h
    obtain ⟨⟨⟨h3, hdp⟩, hm⟩, rfl, rfl⟩ := h
    have h3' := h3
    unfold cH at h3'
    rw [Bool.and_eq_true] at h3'
    obtain ⟨ho, hkl⟩ := h3'
    have hkid := fun (ks' : List IV) hk hok k hm => cH_kid (k := k) (ks := ks') h3 hk hok hm
    obtain ⟨N, hN, rfl, rfl, hk, hkk, hz1, hz2⟩ := nd_openO ho
    rw [hN] at hkl hdp hkid
    rw [kl_mk, hk] at hkl
    simp only [Bool.and_eq_true, decide_eq_true_eq, List.length_map] at hkl
    rw [dp_mk, hk] at hdp
    have hK : ∀ k ∈ ks, cHD d k = true ∧ okNd k = true := fun k hm => by
      refine ⟨?_, List.all_eq_true.1 hkk k hm⟩
      unfold cHD
      rw [hkid ks hk hkk k hm, decide_eq_true (by have := dps_mem (ks := ks.map ndOf) (k := ndOf k) (List.mem_map_of_mem hm); omega)]
      rfl
    refine ⟨[[.agg [.int .i64 N.tag, .fsl n1 c1 z1 (u8s N.bytes), .fsl n2 c2 z2 ks], .int .i64 m]], by simp, Splits.self _, fun ys hy => ?_⟩
    rw [List.mem_singleton] at hy
    subst hy
    obtain ⟨i', q⟩ := cnH_runs (d := d) hm (t := N.tag) (n1 := n1) (c1 := c1) (z1 := z1) (bs := u8s N.bytes) (n2 := n2) (c2 := c2) hz2 hK (by omega) ks.length 0 1 1 (by omega) (by omega) (by omega) (by omega) (by omega)
    rw [List.drop_zero] at q
    have hcn : N.cnt m = cnts (ks.map ndOf) m 1 1 := by
      rw [← hk]
      cases N
      unfold Nd.cnt
      rfl
    have hg1 : gCs (ndV N.tag n1 c1 z1 (u8s N.bytes) n2 c2 z2 ks) m = (cnts (ks.map ndOf) m 1 1).1 := by unfold gCs; rw [hN, hcn]
    have hg2 : gCd (ndV N.tag n1 c1 z1 (u8s N.bytes) n2 c2 z2 ks) m = (cnts (ks.map ndOf) m 1 1).2 := by unfold gCd; rw [hN, hcn]
    rw [hg1, hg2]
    generalize cnts (ks.map ndOf) m 1 1 = r at *
    have hls : LoopsOK Try.prog hint (acall Try.prog hint (ovrOf (cnH d))) (ltab [(32, 58, LF 32 0 (oneF [.int .i64 m, .ptr 0 0, .int .i64 1, .int .i64 1, .int .i64 0] (ndB N.tag n1 c1 z1 (u8s N.bytes) n2 c2 z2 ks) (.exit 0) [.int .i64 m, .ptr 0 0, .int .i64 r.1, .int .i64 r.2, .int .i64 i'] (ndB N.tag n1 c1 z1 (u8s N.bytes) n2 c2 z2 ks)))]) := by
      refine ltab_cons (by kernel_rfl) (loopF_ok fun vs bx e vs' bx' hm => ?_) ltab_nil
      obtain ⟨rfl, rfl, rfl, rfl, rfl⟩ := oneF_mem hm
      exact q
    exact ⟨noGd_of rfl, cnH d, _, tab_cons ih tab_nil, hls, 30, _, Wk.refl _, (cnt_call (cHm d) gCs gCd m r.1 r.2 N.tag n1 c1 z1 (u8s N.bytes) n2 c2 z2 ks i').trans (bif_step sameS_t rfl)⟩
def cHc (x : IV) (m : Int) : Bool := cH x && decide (0 ≤ m ∧ m ≤ 1000000)
theorem countH_known : Known Try.prog hint 32 (cntP cHc gCs gCd) := known_each fun xs T v T1 h => by
  unfold cntP at h
  split at h
  case h_2 => cases h
  rename_i t n1 c1 z1 bs n2 c2 z2 ks m
  simp only [List.mem_cons, List.not_mem_nil, or_false, Prod.mk.injEq, Bool.true_eq, cHc, Bool.and_eq_true] at h
  obtain ⟨⟨h2, h3⟩, rfl, rfl⟩ := h
  refine ⟨_, cnH_d (ndOf (ndV t n1 c1 z1 bs n2 c2 z2 ks)).dp, ?_⟩
  unfold cntP cHm cHD
  simp only [h2, h3, Bool.and_self, decide_eq_true (Nat.le_refl _)]
theorem heavyH_known : Known Try.prog hint 9 (welP cH gHeavy) := by
  refine known_of fits (spec := tab [(32, cntP cHc gCs gCd)]) (tab_cons countH_known tab_nil) loops_none ?_
  (intro xs T v T1 h; unfold welP at h; split at h; rotate_left; · cases h)
  rename_i t n1 c1 z1 bs n2 c2 z2 ks
  simp only [List.mem_cons, List.not_mem_nil, or_false, Prod.mk.injEq, Bool.true_eq] at h
  obtain ⟨h1, rfl, rfl⟩ := h
  exact ⟨30, (heavy_tree cHc gCs gCd t n1 c1 z1 bs n2 c2 z2 ks).trans (bif_step (by unfold cHc; rw [h1]; rfl) rfl)⟩

/-! ### Right, of values without kids -/
def cLf (x : IV) : Bool := cH x && !gMany (ndOf x).tag
theorem cLf_open {t : Int} {n1 : Option Bool} {c1 : Bool} {z1 : Nat} {bs : List IV} {n2 : Option Bool} {c2 : Bool} {z2 : Nat} {ks : List IV} (h : cLf (ndV t n1 c1 z1 bs n2 c2 z2 ks) = true) :
    ∃ N, ndOf (ndV t n1 c1 z1 bs n2 c2 z2 ks) = N ∧ t = N.tag ∧ bs = u8s N.bytes ∧ N.kids = ks.map ndOf ∧ (z1 = 1 ∨ N.bytes = []) ∧ N.bytes.length ≤ 140737488351232 ∧ (!gMany N.tag) = true := by
  unfold cLf cH at h
  simp only [Bool.and_eq_true] at h
  obtain ⟨⟨ho, hkl⟩, hm⟩ := h
  obtain ⟨N, hN, rfl, rfl, hk, hkk, hz1, hz2⟩ := nd_openO ho
  rw [hN] at hkl hm
  rw [kl_mk] at hkl
  simp only [Bool.and_eq_true, decide_eq_true_eq] at hkl
  exact ⟨N, hN, rfl, rfl, hk, hz1, hkl.1.1, hm⟩
theorem rightL_known : Known Try.prog hint 14 (welP cLf gRight) := by
  have h35 : Known Try.prog hint 35 (rgP (fun x lv n => cLf x && (lv == 16 && n == 4096)) gRg gRl) := by
    refine known_ralt fits fun us T v T1 h => ?_
    unfold rgP at h
    split at h
    case h_2 => cases h
    rename_i t n1 c1 z1 bs n2 c2 z2 ks lv n
    simp only [List.mem_cons, List.not_mem_nil, or_false, Prod.mk.injEq, Bool.true_eq, Bool.and_eq_true, beq_iff_eq] at h
    obtain ⟨⟨h1, rfl, rfl⟩, rfl, rfl⟩ := h
    obtain ⟨N, hN, rfl, rfl, hk, hz1, hlen, hm⟩ := cLf_open h1
    refine ⟨[[.agg [.int .i64 N.tag, .fsl n1 c1 z1 (u8s N.bytes), .fsl n2 c2 z2 ks], .int .i64 16, .ptr 0 0]], by simp, Splits.self _, fun ys hy => ?_⟩
    rw [List.mem_singleton] at hy
    subst hy
    have hg1 : gRg (ndV N.tag n1 c1 z1 (u8s N.bytes) n2 c2 z2 ks) 16 4096 = (ks.isEmpty && fitsB N.tag N.bytes) := by
      unfold gRg
      rw [hN, ← List.isEmpty_map (f := ndOf), ← hk]
      cases N
      unfold Nd.rg
      simp only [Nd.tag] at hm
      rw [hm]
      rfl
    have hg2 : gRl (ndV N.tag n1 c1 z1 (u8s N.bytes) n2 c2 z2 ks) 16 4096 = 4095 := by
      unfold gRl
      rw [hN]
      cases N
      unfold Nd.rg
      simp only [Nd.tag] at hm
      rw [hm]
      rfl
    rw [hg1, hg2]
    have htab : ∀ f F, rgT' 0 f = some F → Known Try.prog hint f F := tab_cons (rg_d 0) (tab_cons many_known (tab_cons fit_known (tab_cons ordered_known tab_nil)))
    refine ⟨noGd_of rfl, rgT' 0, _, htab, ltab_no (by kernel_rfl) ltab_nil, 30, _, Wk.refl _, (rg_leaf (cRg 0) gRg gRl gMany cFt gFt cKs gRis 16 4096 0 N.tag n1 c1 z1 (u8s N.bytes) n2 c2 z2 ks).trans ?_⟩
    rw [hm, klen0]
    refine bif_step rfl (bif_stepF rfl (bif_step rfl ?_))
    cases hb : ks.isEmpty
    · rfl
    · refine bif_step rfl (bif_step (cF_of hz1 (by omega)) ?_)
      unfold gFt
      rw [toBytes_u8s]; rfl
  refine known_of fits (spec := tab [(35, rgP (fun x lv n => cLf x && (lv == 16 && n == 4096)) gRg gRl)]) (tab_cons h35 tab_nil) loops_none ?_
  (intro xs T v T1 h; unfold welP at h; split at h; rotate_left; · cases h)
  rename_i t n1 c1 z1 bs n2 c2 z2 ks
  simp only [List.mem_cons, List.not_mem_nil, or_false, Prod.mk.injEq, Bool.true_eq] at h
  obtain ⟨h1, rfl, rfl⟩ := h
  exact ⟨30, (right_tree _ gRg gRl t n1 c1 z1 bs n2 c2 z2 ks).trans (bif_step (by rw [h1]; rfl) rfl)⟩
theorem wellL_known : Known Try.prog hint 36 (welP cLf gWel) := by
  refine known_ralt fits fun us T v T1 h => ?_
  unfold welP at h
  split at h
  case h_2 => cases h
  rename_i t n1 c1 z1 bs n2 c2 z2 ks
  simp only [List.mem_cons, List.not_mem_nil, or_false, Prod.mk.injEq, Bool.true_eq] at h
  obtain ⟨h1, rfl, rfl⟩ := h
  obtain ⟨N, hN, rfl, rfl, hk, hz1, hlen, hm⟩ := cLf_open h1
  refine ⟨[[.agg [.int .i64 N.tag, .fsl n1 c1 z1 (u8s N.bytes), .fsl n2 c2 z2 ks]]], by simp, Splits.self _, fun ys hy => ?_⟩
  rw [List.mem_singleton] at hy
  subst hy
  have hg1 : gWel (ndV N.tag n1 c1 z1 (u8s N.bytes) n2 c2 z2 ks) = (ks.isEmpty && fitsB N.tag N.bytes) := by
    unfold gWel
    rw [hN, wel_mk, hm, cond_true, hk, List.isEmpty_map]
  rw [hg1]
  have htab : ∀ f F, weT' 0 f = some F → Known Try.prog hint f F := tab_cons (we_d 0) (tab_cons rfit_known (tab_cons rises_known tab_nil))
  refine ⟨noGd_of rfl, weT' 0, _, htab, ltab_no (by kernel_rfl) ltab_nil, 30, _, Wk.refl _, (we_leaf (cD 0) gWel cFt gFt cKs gRis N.tag n1 c1 z1 (u8s N.bytes) n2 c2 z2 ks).trans ?_⟩
  have hmany : (bif N.tag != (48 : Int) then N.tag != (49 : Int) else false) = !gMany N.tag := by
    unfold gMany
    cases h1 : N.tag == (48 : Int)
    · have : (N.tag != (48 : Int)) = true := by simp only [bne, h1]; rfl
      rw [this]; rfl
    · have : (N.tag != (48 : Int)) = false := by simp only [bne, h1]; rfl
      rw [this]; rfl
  rw [hmany, hm, klen0]
  refine bif_step rfl ?_
  cases hb : ks.isEmpty
  · rfl
  · refine bif_step rfl (bif_step (cF_of hz1 (by omega)) ?_)
    unfold gFt
    rw [toBytes_u8s]; rfl
theorem rrightL_known : Known Try.prog hint 15 (welP cLf gRight) := by
  refine known_of fits (spec := tab [(32, cntP cHc gCs gCd), (36, welP cLf gWel)]) (tab_cons countH_known (tab_cons wellL_known tab_nil)) loops_none ?_
  (intro xs T v T1 h; unfold welP at h; split at h; rotate_left; · cases h)
  rename_i t n1 c1 z1 bs n2 c2 z2 ks
  simp only [List.mem_cons, List.not_mem_nil, or_false, Prod.mk.injEq, Bool.true_eq] at h
  obtain ⟨h1, rfl, rfl⟩ := h
  have h1' := h1
  unfold cLf at h1'
  rw [Bool.and_eq_true] at h1'
  refine ⟨30, (rright_tree cHc gCs gCd cLf gWel t n1 c1 z1 bs n2 c2 z2 ks).trans (bif_step (by unfold cHc; rw [h1'.1]; rfl) ?_)⟩
  have hr : gRight (ndV t n1 c1 z1 bs n2 c2 z2 ks) = ((bif decide (gCs (ndV t n1 c1 z1 bs n2 c2 z2 ks) 4096 ≤ 4096) then decide (gCd (ndV t n1 c1 z1 bs n2 c2 z2 ks) 4096 ≤ 16) else false) && gWel (ndV t n1 c1 z1 bs n2 c2 z2 ks)) := right_eq _
  rw [hr]
  cases hb : (bif decide (gCs (ndV t n1 c1 z1 bs n2 c2 z2 ks) 4096 ≤ 4096) then decide (gCd (ndV t n1 c1 z1 bs n2 c2 z2 ks) 4096 ≤ 16) else false)
  · exact bif_stepF rfl rfl
  · exact bif_step rfl (bif_step h1 rfl)

/-! ### The law -/
theorem bytes25 : Try.prog.bytesOf 25 = 56 := by kernel_rfl
theorem ty22H {n : Nat} {l : List IV} (h : Ty Try.prog n 22 l) : ∃ nl cl es, l = [.fsl (some nl) cl 1 es] ∧ okB es = true ∧ es.length ≤ 140737488351232 := by
  obtain ⟨nl, cl, es, rfl, ho⟩ := ty22 h
  obtain ⟨m, nl2, cl2, es2, hm, he, _, e1, _, e3⟩ := ty_slice und22 h
  simp only [List.cons.injEq, IV.fsl.injEq, and_true] at he
  obtain ⟨_, _, _, rfl⟩ := he
  rw [bytes5, reach_val] at e1
  exact ⟨nl, cl, es, rfl, ho, by omega⟩
theorem kls_all : ∀ ks : List Nd, kls ks = ks.all Nd.kl
  | [] => rfl
  | k :: ks => by unfold kls; rw [kls_all ks]; rfl
theorem ty25H : ∀ (n : Nat) {l : List IV}, Ty Try.prog n 25 l → ∃ t n1 c1 z1 bs n2 c2 z2 ks, l = [.int .i64 t, .fsl n1 c1 z1 bs, .fsl n2 c2 z2 ks] ∧ cH (.agg l) = true
  | 0, l, h => by simp [Ty] at h
  | n + 1, l, h => by
    obtain ⟨t0, m1, d1, y1, b0, m2, d2, y2, k0, hl0, ho0⟩ := ty25 _ h
    obtain ⟨m, hm, h⟩ := ty_struct Try.underlying25 h
    obtain rfl : n = m := by omega
    simp only [FieldsT] at h
    obtain ⟨c1, r1, rfl, h1, c2, r2, rfl, h2, c3, r3, rfl, h3, rfl⟩ := h
    obtain ⟨t, rfl, _⟩ := ty_int und3 h1
    obtain ⟨nl, cl, bs, rfl, o1, o2⟩ := ty22H h2
    obtain ⟨m, nl', cl', es, hmm, rfl, _, e1, _, e3⟩ := ty_slice und23 h3
    rw [cells25] at *
    rw [bytes25, reach_val] at e1
    refine ⟨t, some nl, cl, 1, bs, some nl', cl', 3, es, rfl, ?_⟩
    have ho : okNd (.agg [.int .i64 t, .fsl (some nl) cl 1 bs, .fsl (some nl') cl' 3 es]) = true := ho0
    show cH (.agg [.int .i64 t, .fsl (some nl) cl 1 bs, .fsl (some nl') cl' 3 es]) = true
    obtain ⟨N, hN, rfl, hb, hk, hkk, _, _⟩ := nd_openO ho
    unfold cH
    rw [ho]
    have hN' : ndOf (.agg [.int .i64 N.tag, .fsl (some nl) cl 1 bs, .fsl (some nl') cl' 3 es]) = N := hN
    have hbl : N.bytes.length = bs.length := by rw [hb, u8s_len]
    rw [hN', kl_mk, hk, hbl, List.length_map, decide_eq_true o2, decide_eq_true (by omega), kls_all, Bool.true_and, Bool.true_and, Bool.true_and, List.all_eq_true]
    intro k hkm
    obtain ⟨x, hx, rfl⟩ := List.mem_map.1 hkm
    obtain ⟨cs, hq, _, ht⟩ := e3 x hx
    have hlt : m ≤ n := by omega
    obtain ⟨t', m1, d1, y1, bs', m2, d2, y2, ks', hl', ho'⟩ := ty25H m ht
    have : x = .agg cs := pack_struct Try.underlying25 hq (by rw [hl', cells25]; rfl)
    rw [this]
    unfold cH at ho'
    exact ((Bool.and_eq_true _ _).mp ho').2
  termination_by n => n
theorem arg25H {x : IV} (h : ArgT Try.prog 25 x) : ∃ t n1 c1 z1 bs n2 c2 z2 ks, x = ndV t n1 c1 z1 bs n2 c2 z2 ks ∧ cH x = true := by
  obtain ⟨n, l, h1, h2, _⟩ := h
  obtain ⟨t, n1, c1, z1, bs, n2, c2, z2, ks, rfl, ho⟩ := ty25H n h1
  have hx := pack_struct Try.underlying25 h2 (by rw [cells25]; rfl)
  subst hx
  exact ⟨t, n1, c1, z1, bs, n2, c2, z2, ks, rfl, ho⟩
abbrev tabN' : FuncId → Option SpecF := dnT cH gHeavy cTx gTx (cTag 2 cLf) gIv gIe cI gI cNat gNat (cTag 2 cLf) gNv gNe cSam gSam (cTag 12 cLf) gTs gTe cS2 gSa
theorem tabN_ok : ∀ f F, tabN' f = some F → Known Try.prog hint f F := tab_cons heavyH_known (tab_cons text_known (tab_cons rtext_known (tab_cons (iof_known rightL_known) (tab_cons (riof_known rrightL_known) (tab_cons int_known (tab_cons rint_known (tab_cons (nat_known ins_known) (tab_cons rnat_known
  (tab_cons (nof_known rightL_known) (tab_cons (rnof_known rrightL_known) (tab_cons (tof_known rightL_known) (tab_cons (rtof_known rrightL_known) (tab_cons sam_known (tab_cons same_known (tab_cons alive_known tab_nil)))))))))))))))
theorem cTag_of {tg : Int} {x : IV} (h : cH x = true) (ht : gMany tg = false) : cTag tg cLf x = true := by
  have h' := h
  unfold cH at h'
  rw [Bool.and_eq_true] at h'
  have hkl := h'.2
  rw [kl_mk] at hkl
  simp only [Bool.and_eq_true, decide_eq_true_eq] at hkl
  unfold cTag
  rw [h'.1, decide_eq_true (by omega), Bool.true_and, Bool.true_and]
  cases he : (ndOf x).tag == tg
  · rfl
  · unfold cLf
    rw [h, eq_of_beq he, ht]
    rfl
theorem same_leaf {t : Int} {b : List UInt8} : gSa (ndV t none false 1 (u8s b) (some true) true 0 []) (ndV t none false 1 (u8s b) (some true) true 0 []) = true := by
  unfold gSa
  exact same_refl _
theorem derNumbers_run (xs : List IV) (hl : xs.length = Try.f7.params.size) (h : ∀ (i : Nat) t, Try.f7.params[i]? = some t → ∃ x, xs[i]? = some x ∧ ArgT Try.prog t x) :
    ∃ k, acall Try.prog hint (ovrOf tabN') k 7 xs [] = some (.bool true, []) := by
  rw [Try.params7] at hl h
  obtain ⟨x0, g0, a0⟩ := h 0 3 rfl
  obtain ⟨x1, g1, a1⟩ := h 1 39 rfl
  obtain ⟨x2, g2, a2⟩ := h 2 9 rfl
  obtain ⟨x3, g3, a3⟩ := h 3 25 rfl
  match xs, hl with
  | [y0, y1, y2, y3], _ =>
    simp only [List.getElem?_cons_zero, List.getElem?_cons_succ, Option.some.injEq] at g0 g1 g2 g3
    subst g0 g1 g2 g3
    obtain ⟨a, rfl, r1, r2⟩ := arg_int und3 a0
    obtain ⟨nl, cl, l, rfl, hw, hlen⟩ := arg39 a1
    obtain ⟨s, rfl, hs⟩ := arg_str und9' a2
    obtain ⟨t, n1, c1, z1, bs, n2, c2, z2, ks, rfl, hH⟩ := arg25H a3
    have r := Go.Im.range_i64
    rw [r.1] at r1
    rw [r.2] at r2
    have hd : C tabN' 7 [.int .i64 a, .fsl (some nl) cl 1 l, .str s, ndV t n1 c1 z1 bs n2 c2 z2 ks] = _ := dn_tree cH gHeavy cTx gTx (cTag 2 cLf) gIv gIe cI gI cNat gNat (cTag 2 cLf) gNv gNe cSam gSam (cTag 12 cLf) gTs gTe cS2 gSa a (some nl) cl l s t n1 c1 z1 bs n2 c2 z2 ks
    refine law_run loops_none (n := 30) (hd.trans ?_)
    by_cases hg : l.length > 100 ∨ s.length > 400
    · refine bif_stepF ?_ rfl
      rcases hg with hg | hg
      · rw [decide_eq_true (by omega)]; rfl
      · rw [decide_eq_true (p := (s.length : Int) > 400) (by omega)]
        cases decide ((l.length : Int) > 100) <;> rfl
    have hl1 : l.length ≤ 100 := by omega
    have hs1 : s.length ≤ 400 := by omega
    refine bif_step (by rw [decide_eq_false (by omega), decide_eq_false (by omega)]; rfl) (bif_step hH ?_)
    cases hh : gHeavy (ndV t n1 c1 z1 bs n2 c2 z2 ks)
    case true => exact bif_step rfl rfl
    obtain ⟨e, ho⟩ := okW_eq hw
    have hcI : cI a = true := decide_eq_true ⟨r1, r2⟩
    have hk8 := kI_le a
    have hcn : cNat cl l = true := by unfold cNat; rw [hw, decide_eq_true (by omega)]; rfl
    have hkb := kN_bytes ho
    have htw : (toW l).length = l.length := by unfold toW; rw [List.length_map]
    have hbi : (be (kI a) a).length ≤ 90000000 := by rw [be_len]; omega
    have hbn : (nb (valL (toW l))).length ≤ 90000000 := by omega
    have hcx : cTx s = true := decide_eq_true (by omega)
    have q2 := cTag_of hH (tg := 2) rfl
    have q12 := cTag_of hH (tg := 12) rfl
    have s1 : cS2 (ndV 2 none false 1 (gI a) (some true) true 0 []) (ndV 2 none false 1 (gI a) (some true) true 0 []) = true := by
      have : cN (ndV 2 none false 1 (gI a) (some true) true 0 []) = true := cN_leaf hbi
      show (cN _ && cN _) = true
      rw [this]; rfl
    have s2 : cS2 (ndV 2 none false 1 (gNat l) (some true) true 0 []) (ndV 2 none false 1 (gNat l) (some true) true 0 []) = true := by
      have : cN (ndV 2 none false 1 (gNat l) (some true) true 0 []) = true := cN_leaf hbn
      show (cN _ && cN _) = true
      rw [this]; rfl
    have g1 : gSa (ndV 2 none false 1 (gI a) (some true) true 0 []) (ndV 2 none false 1 (gI a) (some true) true 0 []) = true := same_leaf
    have g2 : gSa (ndV 2 none false 1 (gNat l) (some true) true 0 []) (ndV 2 none false 1 (gNat l) (some true) true 0 []) = true := same_leaf
    have hT : ∃ b : List UInt8, b.length ≤ 400 ∧ (bif gTx s then u8s s else []) = u8s b := by
      cases gTx s
      · exact ⟨[], by simp, rfl⟩
      · exact ⟨s, hs1, rfl⟩
    obtain ⟨b, hb1, hb2⟩ := hT
    rw [hb2]
    generalize (bif gTx s then (12 : Int) else 0) = tg
    generalize (bif gTx s then (0 : Int) else 1) = er
    have s3 : cS2 (ndV tg none false 1 (u8s b) (some true) true 0 []) (ndV tg none false 1 (u8s b) (some true) true 0 []) = true := by
      have : cN (ndV tg none false 1 (u8s b) (some true) true 0 []) = true := cN_leaf (by omega)
      show (cN _ && cN _) = true
      rw [this]; rfl
    have g3 : gSa (ndV tg none false 1 (u8s b) (some true) true 0 []) (ndV tg none false 1 (u8s b) (some true) true 0 []) = true := same_leaf
    have hNv : ∃ L : List Nat, okL L ∧ L.length ≤ 1000000000000000000 ∧ gNv (ndV t n1 c1 z1 bs n2 c2 z2 ks) = w64s L := by
      unfold gNv
      have hH' := hH
      unfold cH at hH'
      rw [Bool.and_eq_true] at hH'
      have hkl := hH'.2
      clear hH'
      generalize ndOf (ndV t n1 c1 z1 bs n2 c2 z2 ks) = N at *
      rw [kl_mk] at hkl
      simp only [Bool.and_eq_true, decide_eq_true_eq] at hkl
      cases hb : (N.tag == 2 && gRight (ndV t n1 c1 z1 bs n2 c2 z2 ks) && !negB N.bytes)
      · exact ⟨[], okL_nil, by simp, rfl⟩
      · refine ⟨limbs (numL N.bytes), limbs_ok _, ?_, rfl⟩
        have := limbs_len (n := numL N.bytes) (k := N.bytes.length) (by
          refine Nat.lt_of_lt_of_le (numL_lt _) ?_
          rw [pow64]
          exact Nat.pow_le_pow_right (by decide) (by omega))
        omega
    obtain ⟨L, hL1, hL2, hL3⟩ := hNv
    have hcs : cSam (gNv (ndV t n1 c1 z1 bs n2 c2 z2 ks)) (gNv (ndV t n1 c1 z1 bs n2 c2 z2 ks)) = true := by
      rw [hL3]
      unfold cSam
      rw [okW_w64s hL1, w64s_len, decide_eq_true hL2]
      rfl
    have hgs : gSam (gNv (ndV t n1 c1 z1 bs n2 c2 z2 ks)) (gNv (ndV t n1 c1 z1 bs n2 c2 z2 ks)) = true := decide_eq_true rfl
    rw [g1, g2, g3, hgs]
    refine bif_stepF rfl (bif_step hcx (bif_step hcx (bif_step q2 (bif_step q2 (bif_step hcI (bif_step hcI (bif_step s1 (bif_step rfl (bif_step hcn (bif_step hcn (bif_step s2 (bif_step rfl (bif_step s3 (bif_stepF ?_ (bif_step q2 (bif_step q2 (bif_step q12 (bif_step q12 (bif_step hcs ?_)))))))))))))))))))
    · rw [bne_self_eq_false, bne_self_eq_false, bne_self_eq_false]; rfl
    · rw [beq_self_eq_true, beq_self_eq_true, beq_self_eq_true]; rfl
end
end Go.Proofs.Ytolpgbgmldpneaa
