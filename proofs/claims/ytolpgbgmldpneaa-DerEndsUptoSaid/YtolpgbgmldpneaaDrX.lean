/- Values counted, written. It bears no condition. -/
import Derived.Test.YtolpgbgmldpneaaDrW
namespace Go.Proofs.Ytolpgbgmldpneaa
open Go Go.Im
set_option linter.unusedVariables false
set_option linter.unusedSimpArgs false
set_option maxRecDepth 20000
noncomputable section

def cCn (d : Nat) (x : IV) (m : Int) : Bool := cD d x && decide (0 ≤ m ∧ m ≤ 1000000)
def gCs (x : IV) (m : Int) : Int := ((ndOf x).cnt m).1
def gCd (x : IV) (m : Int) : Int := ((ndOf x).cnt m).2
abbrev cnT (d : Nat) : FuncId → Option SpecF := tab [(32, cntP (cCn d) gCs gCd)]
theorem cn_runs {d : Nat} {m : Int} (hm : 0 ≤ m ∧ m ≤ 1000000) {t : Int} {n1 : Option Bool} {c1 : Bool} {z1 : Nat} {bs : List IV} {n2 : Option Bool} {c2 : Bool} {z2 : Nat} {ks : List IV} (hz : z2 = 3 ∨ ks = []) (hk : ∀ k ∈ ks, cD d k = true ∧ okNd k = true) (hl : ks.length ≤ 100000000) : ∀ (j i : Nat) (s e : Int), i + j = ks.length → 1 ≤ s → s + nums ((ks.drop i).map ndOf) ≤ 200000000 → 1 ≤ e → e ≤ 200000000 → (∀ k ∈ ks, (ndOf k).dp ≤ 100000000) →
    ∃ i' : Int, Runs Try.prog hint (acall Try.prog hint (ovrOf (cnT d))) 0 (hint.kp 32) (loopAt Try.prog 32 58) (Sx 32 [.int .i64 m, .ptr 0 0, .int .i64 s, .int .i64 e, .int .i64 (i : Int)] (ndB t n1 c1 z1 bs n2 c2 z2 ks)) (.exit 0)
      (Sx 32 [.int .i64 m, .ptr 0 0, .int .i64 (cnts ((ks.drop i).map ndOf) m s e).1, .int .i64 (cnts ((ks.drop i).map ndOf) m s e).2, .int .i64 i'] (ndB t n1 c1 z1 bs n2 c2 z2 ks))
  | 0, i, s, e, hi, h1, h2, h3, h4, h5 => by
    obtain rfl : i = ks.length := by omega
    rw [List.drop_length]
    refine ⟨ks.length, ?_⟩
    have ht := cnt_in (cCn d) gCs gCd m s e t n1 c1 z1 bs n2 c2 z2 ks ks.length
    refine Runs.last (n := 30) (ls := fun _ _ => none) loops_none inner0 (by simp) (ht.trans (bif_stepF ?_ rfl))
    rw [decide_eq_false (by omega)]; rfl
  | j + 1, i, s, e, hi, h1, h2, h3, h4, h5 => by
    have hi' : i < ks.length := by omega
    obtain ⟨k1, k2⟩ := hk _ (List.getElem_mem hi')
    have hdp := h5 _ (List.getElem_mem hi')
    have hz3 : z2 = 3 := hz.resolve_right fun h => by rw [h] at hi'; simp at hi'
    have ht := cnt_in (cCn d) gCs gCd m s e t n1 c1 z1 bs n2 c2 z2 ks i
    have e1 : (ks.drop i).map ndOf = ndOf ks[i] :: (ks.drop (i + 1)).map ndOf := by rw [List.drop_eq_getElem_cons hi', List.map_cons]
    rw [e1] at h2 ⊢
    unfold nums at h2
    by_cases hs : s ≤ m
    · obtain ⟨a1, a2, ⟨a3, a4⟩, a5, a6⟩ := cnt_eq (ndOf ks[i]) (m - s)
      obtain ⟨x1, x2⟩ := kid_cells k2
      have w1 : IntKind.i64.wrap (m - s) = m - s := by rw [wrap_i64]; omega
      rw [nthD_at hi', x1, x2, w1, wadd1 (by omega)] at ht
      have g1 : gCs ks[i] (m - s) = ((ndOf ks[i]).cnt (m - s)).1 := rfl
      have g2 : gCd ks[i] (m - s) = ((ndOf ks[i]).cnt (m - s)).2 := rfl
      have w2 : IntKind.i64.wrap (s + gCs ks[i] (m - s)) = s + ((ndOf ks[i]).cnt (m - s)).1 := by rw [g1, wrap_i64]; omega
      have w3 : IntKind.i64.wrap (gCd ks[i] (m - s) + 1) = ((ndOf ks[i]).cnt (m - s)).2 + 1 := by rw [g2, wrap_i64]; omega
      rw [w2, w3, g2] at ht
      have hc : cCn d ks[i] (m - s) = true := by unfold cCn; rw [k1, decide_eq_true (by omega)]; rfl
      have hb : (bif decide ((i : Int) < (ks.length : Int)) then decide (s ≤ m) else false) = true := by rw [decide_eq_true (by omega), decide_eq_true hs]; rfl
      replace ht := fun r q => ht.trans (bif_step (r := r) hb (bif_step (decide_eq_true ⟨hz3, by omega, by omega⟩) (bif_step rfl (bif_step hc q))))
      have hcn : cnts (ndOf ks[i] :: (ks.drop (i + 1)).map ndOf) m s e = cnts ((ks.drop (i + 1)).map ndOf) m (s + ((ndOf ks[i]).cnt (m - s)).1) (bif decide (((ndOf ks[i]).cnt (m - s)).2 ≥ e) then ((ndOf ks[i]).cnt (m - s)).2 + 1 else e) := by
        rw [cnts, decide_eq_true hs, cond_true]
      rw [hcn]
      cases hd : decide (((ndOf ks[i]).cnt (m - s)).2 ≥ e)
      · rw [cond_false]
        obtain ⟨i', ih⟩ := cn_runs hm hz hk hl (t := t) (n1 := n1) (c1 := c1) (z1 := z1) (bs := bs) (n2 := n2) (c2 := c2) j (i + 1) (s + ((ndOf ks[i]).cnt (m - s)).1) e (by omega) (by omega) (by omega) h3 h4 h5
        exact ⟨i', Runs.step (n := 30) (ls := fun _ _ => none) loops_none inner0 (ht _ (bif_stepF hd rfl)) ih⟩
      · rw [cond_true]
        obtain ⟨i', ih⟩ := cn_runs hm hz hk hl (t := t) (n1 := n1) (c1 := c1) (z1 := z1) (bs := bs) (n2 := n2) (c2 := c2) j (i + 1) (s + ((ndOf ks[i]).cnt (m - s)).1) (((ndOf ks[i]).cnt (m - s)).2 + 1) (by omega) (by omega) (by omega) (by omega) (by omega) h5
        exact ⟨i', Runs.step (n := 30) (ls := fun _ _ => none) loops_none inner0 (ht _ (bif_step hd rfl)) ih⟩
    · have hcn : cnts (ndOf ks[i] :: (ks.drop (i + 1)).map ndOf) m s e = (s, e) := by
        rw [cnts, decide_eq_false hs, cond_false]
      rw [hcn]
      refine ⟨i, Runs.last (n := 30) (ls := fun _ _ => none) loops_none inner0 (by simp) (ht.trans (bif_stepF ?_ rfl))⟩
      rw [decide_eq_false hs]
      cases decide ((i : Int) < (ks.length : Int)) <;> rfl
theorem cn_d : ∀ d : Nat, Known Try.prog hint 32 (cntP (cCn d) gCs gCd)
  | 0 => known_each fun xs T v T1 h => by
    exfalso
    unfold cntP at h
    split at h
    · simp only [List.mem_cons, List.not_mem_nil, or_false, Prod.mk.injEq, Bool.true_eq, cCn, Bool.and_eq_true] at h
      exact no_d0 h.1.1
    · cases h
  | d + 1 => by
    have ih := cn_d d
    refine known_ralt fits fun us T v T1 h => ?_
    unfold cntP at h
    split at h
    case h_2 => cases h
    rename_i t n1 c1 z1 bs n2 c2 z2 ks m
    simp only [List.mem_cons, List.not_mem_nil, or_false, Prod.mk.injEq, Bool.true_eq, cCn, Bool.and_eq_true, decide_eq_true_eq] at h
    obtain ⟨⟨h3, hm⟩, rfl, rfl⟩ := h
    obtain ⟨N, hN, rfl, rfl, hk, hkk, hz1, hz2, hsz, hll⟩ := nd_open h3
    refine ⟨[[.agg [.int .i64 N.tag, .fsl n1 c1 z1 (u8s N.bytes), .fsl n2 c2 z2 ks], .int .i64 m]], by simp, Splits.self _, fun ys hy => ?_⟩
    rw [List.mem_singleton] at hy
    subst hy
    have hns := nums_sz (ks.map ndOf)
    have hds := dps_sz (ks.map ndOf)
    have hdk : ∀ k ∈ ks, (ndOf k).dp ≤ 100000000 := fun k hmem => by
      have := dps_mem (ks := ks.map ndOf) (k := ndOf k) (List.mem_map_of_mem hmem)
      omega
    obtain ⟨i', q⟩ := cn_runs (d := d) hm (t := N.tag) (n1 := n1) (c1 := c1) (z1 := z1) (bs := u8s N.bytes) (n2 := n2) (c2 := c2) hz2 hkk (by omega) ks.length 0 1 1 (by omega) (by omega) (by rw [List.drop_zero]; omega) (by omega) (by omega) hdk
    rw [List.drop_zero] at q
    have hcn : N.cnt m = cnts (ks.map ndOf) m 1 1 := by
      rw [← hk]
      cases N
      unfold Nd.cnt
      rfl
    have hg1 : gCs (ndV N.tag n1 c1 z1 (u8s N.bytes) n2 c2 z2 ks) m = (cnts (ks.map ndOf) m 1 1).1 := by unfold gCs; rw [hN, hcn]
    have hg2 : gCd (ndV N.tag n1 c1 z1 (u8s N.bytes) n2 c2 z2 ks) m = (cnts (ks.map ndOf) m 1 1).2 := by unfold gCd; rw [hN, hcn]
    rw [hg1, hg2]
    generalize cnts (ks.map ndOf) m 1 1 = r at *
    have hls : LoopsOK Try.prog hint (acall Try.prog hint (ovrOf (cnT d))) (ltab [(32, 58, LF 32 0 (oneF [.int .i64 m, .ptr 0 0, .int .i64 1, .int .i64 1, .int .i64 0] (ndB N.tag n1 c1 z1 (u8s N.bytes) n2 c2 z2 ks) (.exit 0) [.int .i64 m, .ptr 0 0, .int .i64 r.1, .int .i64 r.2, .int .i64 i'] (ndB N.tag n1 c1 z1 (u8s N.bytes) n2 c2 z2 ks)))]) := by
      refine ltab_cons (by kernel_rfl) (loopF_ok fun vs bx e vs' bx' hm => ?_) ltab_nil
      obtain ⟨rfl, rfl, rfl, rfl, rfl⟩ := oneF_mem hm
      exact q
    exact ⟨noGd_of rfl, cnT d, _, tab_cons ih tab_nil, hls, 30, _, Wk.refl _, (cnt_call (cCn d) gCs gCd m r.1 r.2 N.tag n1 c1 z1 (u8s N.bytes) n2 c2 z2 ks i').trans (bif_step sameS_t rfl)⟩
def cCm (x : IV) (m : Int) : Bool := cN x && decide (0 ≤ m ∧ m ≤ 1000000)
theorem count_known : Known Try.prog hint 32 (cntP cCm gCs gCd) := known_each fun xs T v T1 h => by
  unfold cntP at h
  split at h
  case h_2 => cases h
  rename_i t n1 c1 z1 bs n2 c2 z2 ks m
  simp only [List.mem_cons, List.not_mem_nil, or_false, Prod.mk.injEq, Bool.true_eq, cCm, Bool.and_eq_true] at h
  obtain ⟨⟨h2, h3⟩, rfl, rfl⟩ := h
  refine ⟨_, cn_d (ndOf (ndV t n1 c1 z1 bs n2 c2 z2 ks)).dp, ?_⟩
  unfold cntP cCn
  simp only [cD_self h2, h3, Bool.and_self]

def gHeavy (x : IV) : Bool := decide (gCs x 400 > 400)
theorem heavy_known : Known Try.prog hint 9 (welP cN gHeavy) := by
  refine known_of fits (spec := tab [(32, cntP cCm gCs gCd)]) (tab_cons count_known tab_nil) loops_none ?_
  (intro xs T v T1 h; unfold welP at h; split at h; rotate_left; · cases h)
  rename_i t n1 c1 z1 bs n2 c2 z2 ks
  simp only [List.mem_cons, List.not_mem_nil, or_false, Prod.mk.injEq, Bool.true_eq] at h
  obtain ⟨h1, rfl, rfl⟩ := h
  exact ⟨30, (heavy_tree cCm gCs gCd t n1 c1 z1 bs n2 c2 z2 ks).trans (bif_step (by unfold cCm; rw [h1]; rfl) rfl)⟩
/-- A value's bytes, or none. -/
def gWr (x : IV) : List IV := bif gRight x && decide ((ndOf x).wr.length ≤ 65535) then u8s (ndOf x).wr else []
def gWe (x : IV) : Int := bif !gRight x then 3 else bif decide ((ndOf x).wr.length ≤ 65535) then 0 else 2
theorem nil_fsl : Wk (.fsl (some true) true 0 []) (.fsl none false 1 []) := Wk.fsl rfl (.inl rfl) (by simp) (.inr rfl)
theorem wk_tup {x y z : IV} (h : Wk x y) : Wk (.tup [x, z]) (.tup [y, z]) := by
  intro Γ w v hr
  simp only [Rep, RepL] at hr ⊢
  obtain ⟨vs, rfl, v1, us, e, h1, h2⟩ := hr
  exact ⟨vs, rfl, v1, us, e, h Γ w v1 h1, h2⟩
end
end Go.Proofs.Ytolpgbgmldpneaa
