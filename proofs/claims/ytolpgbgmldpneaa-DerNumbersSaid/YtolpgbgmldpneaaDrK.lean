/- Values' bytes: put. It bears no condition. -/
import Derived.Test.YtolpgbgmldpneaaDrI
namespace Go.Proofs.Ytolpgbgmldpneaa
open Go Go.Im
set_option linter.unusedVariables false
set_option linter.unusedSimpArgs false
set_option maxRecDepth 20000
noncomputable section

/-- A kid's cells, as a round tells them. -/
theorem kid_cells {x : IV} (h : okNd x = true) : ndV (intOf (nthD x.cells 0)) (nlOf (nthD x.cells 1)) (clOf (nthD x.cells 1)) (szOf (nthD x.cells 1)) (rowL (nthD x.cells 1)) (nlOf (nthD x.cells 2)) (clOf (nthD x.cells 2)) (szOf (nthD x.cells 2)) (rowL (nthD x.cells 2)) = x ∧
    testAll ([LT.i IntKind.i64] ++ ([LT.sl] ++ ([LT.sl] ++ []))) 0 x.cells = true := by
  obtain ⟨n1, c1, z1, n2, c2, z2, ks, hx, _⟩ := okNd_iff h
  rw [hx]
  exact ⟨Eq.trans rfl rfl, Eq.trans rfl rfl⟩
def cPut (d : Nat) (zo : Nat) (o : List IV) (x : IV) : Bool := decide ((zo = 1 ∨ o.length = 0) ∧ o.length ≤ 100000000) && cD d x
def gPut (x : IV) : List IV := u8s (ndOf x).wr
abbrev puT' (d : Nat) : FuncId → Option SpecF := puT (cPut d) gPut cLen gLen
theorem pu_runs {d : Nat} {no : Option Bool} {zo : Nat} {o : List IV} {t : Int} {n1 : Option Bool} {c1 : Bool} {z1 : Nat} {b : List UInt8} {n2 : Option Bool} {c2 : Bool} {z2 : Nat} {ks : List IV} (h3 : z1 = 1 ∨ b = []) (h4 : z2 = 3 ∨ ks = []) (hk : ∀ k ∈ ks, cD d k = true) (hs : b.length + szs (ks.map ndOf) ≤ 100000000) (hl : ks.length ≤ 100000000) : ∀ (m i : Nat) (nb : Option Bool) (cb : Bool) (zb : Nat), i + m = ks.length → (zb = 1 ∨ b ++ wrs ((ks.take i).map ndOf) = []) →
    ∃ nb' cb' zb', (zb' = 1 ∨ b ++ wrs (ks.map ndOf) = []) ∧ Runs Try.prog hint (acall Try.prog hint (ovrOf (puT' d))) 0 (hint.kp 33) (loopAt Try.prog 33 58) (Sx 33 (puV no zo o nb cb zb (u8s (b ++ wrs ((ks.take i).map ndOf))) n2 c2 z2 ks (i : Int)) (ndB t n1 c1 z1 (u8s b) n2 c2 z2 ks)) (.exit 0)
      (Sx 33 (puV no zo o nb' cb' zb' (u8s (b ++ wrs (ks.map ndOf))) n2 c2 z2 ks (ks.length : Int)) (ndB t n1 c1 z1 (u8s b) n2 c2 z2 ks))
  | 0, i, nb, cb, zb, hi, hz => by
    obtain rfl : i = ks.length := by omega
    rw [List.take_length] at hz ⊢
    refine ⟨nb, cb, zb, hz, ?_⟩
    have ht := pu_in (cPut d) gPut cLen gLen no zo o nb cb zb (u8s (b ++ wrs (ks.map ndOf))) t n1 c1 z1 (u8s b) n2 c2 z2 ks ks.length
    exact Runs.last (n := 30) (ls := fun _ _ => none) loops_none inner0 (by simp) (ht.trans (bif_stepF (decide_eq_false (by omega)) rfl))
  | m + 1, i, nb, cb, zb, hi, hz => by
    have hi' : i < ks.length := by omega
    have hm : ks[i] ∈ ks := List.getElem_mem hi'
    have hki := hk _ hm
    have hok : okNd ks[i] = true := by
      unfold cD cN at hki
      simp only [Bool.and_eq_true] at hki
      exact hki.1.1
    obtain ⟨e1, e2⟩ := kid_cells hok
    have hz2 : z2 = 3 := h4.resolve_right fun h => by rw [h] at hi'; simp at hi'
    have hbl : (b ++ wrs ((ks.take i).map ndOf)).length ≤ 100000000 := by
      have h1 := wrs_len ((ks.take i).map ndOf)
      have h2 : szs (ks.map ndOf) = szs ((ks.take i).map ndOf) + szs ((ks.drop i).map ndOf) := by rw [← szs_app, ← List.map_append, List.take_append_drop]
      rw [List.length_append]
      omega
    have ht := pu_in (cPut d) gPut cLen gLen no zo o nb cb zb (u8s (b ++ wrs ((ks.take i).map ndOf))) t n1 c1 z1 (u8s b) n2 c2 z2 ks i
    have e3 : List.take (((u8s (b ++ wrs ((ks.take i).map ndOf))).length : Int).toNat - 0) (List.drop 0 (u8s (b ++ wrs ((ks.take i).map ndOf)))) = u8s (b ++ wrs ((ks.take i).map ndOf)) := by
      rw [Int.toNat_natCast, Nat.sub_zero, List.drop_zero, List.take_length]
    have hz' : zb = 1 ∨ (u8s (b ++ wrs ((ks.take i).map ndOf))).length = 0 := hz.imp id fun h => by rw [h]; rfl
    rw [nthD_at hi', e1, e2, e3, wadd1 (by omega)] at ht
    have hc : cPut d zb (u8s (b ++ wrs ((ks.take i).map ndOf))) ks[i] = true := by
      unfold cPut
      rw [hki, decide_eq_true ⟨hz', by rw [u8s_len]; exact hbl⟩]; rfl
    have e4 : b ++ wrs ((ks.take (i + 1)).map ndOf) = (b ++ wrs ((ks.take i).map ndOf)) ++ (ndOf ks[i]).wr := by
      rw [List.take_succ_eq_append_getElem hi', List.map_append, wrs_app, List.append_assoc]
      simp [wrs]
    obtain ⟨nb', cb', zb', hz3, ih⟩ := pu_runs h3 h4 hk hs hl (t := t) (n1 := n1) (c1 := c1) (n2 := n2) (c2 := c2) (no := no) (zo := zo) (o := o) m (i + 1) none false 1 (by omega) (.inl rfl)
    refine ⟨nb', cb', zb', hz3, Runs.step (n := 30) (ls := fun _ _ => none) loops_none inner0 (ht.trans (bif_step (decide_eq_true (by omega)) (bif_step (decide_eq_true ⟨hz2, by omega, by omega⟩) (bif_step rfl (bif_step (decide_eq_true ⟨by omega, by omega, by omega, rfl⟩) (bif_step (decide_eq_true hz') (bif_step hc rfl))))))) ?_⟩
    rw [e4, u8s_app] at ih
    exact ih
theorem put_d : ∀ d : Nat, Known Try.prog hint 33 (putP (cPut d) gPut)
  | 0 => known_each fun xs T v T1 h => by
    exfalso
    unfold putP at h
    split at h
    · simp only [List.mem_cons, List.not_mem_nil, or_false, Prod.mk.injEq, Bool.true_eq, cPut, cD, Bool.and_eq_true, decide_eq_true_eq] at h
      have h2 := h.1.2.2
      rw [dp_mk] at h2
      omega
    · cases h
  | d + 1 => by
    have ih := put_d d
    refine known_rfrz fits fun us T v T1 h => ?_
    unfold putP at h
    split at h
    case h_2 => cases h
    rename_i no zo o t n1 c1 z1 bs n2 c2 z2 ks
    simp only [List.mem_cons, List.not_mem_nil, or_false, Prod.mk.injEq, Bool.true_eq, cPut, Bool.and_eq_true, decide_eq_true_eq] at h
    obtain ⟨⟨⟨h1, h2⟩, h3⟩, rfl, rfl⟩ := h
    have h3' := h3
    unfold cD cN at h3'
    simp only [Bool.and_eq_true, decide_eq_true_eq] at h3'
    obtain ⟨⟨h4, h5⟩, _⟩ := h3'
    obtain ⟨m1, e1, y1, m2, e2, y2, ks', hx, hk, ho, hz1, hz2⟩ := okNd_iff h4
    generalize hN : ndOf (ndV t n1 c1 z1 bs n2 c2 z2 ks) = N at *
    simp only [ndV, IV.agg.injEq, List.cons.injEq, IV.int.injEq, IV.fsl.injEq, true_and, and_true] at hx
    obtain ⟨rfl, ⟨rfl, rfl, rfl, rfl⟩, rfl, rfl, rfl, rfl⟩ := hx
    have hsz := sz_mk N
    have hkk : ∀ k ∈ ks, cD d k = true := fun k hm => cD_kid h3 (by rw [hN]; exact hk) ho hm
    rw [hk] at hsz
    have hll : ks.length ≤ szs (ks.map ndOf) := by
      clear hsz hkk hk ho hz2 h3 hN h4
      induction ks with
      | nil => exact Nat.zero_le _
      | cons k ks ih =>
        have : 8 ≤ (ndOf k).sz := by rw [sz_mk]; omega
        rw [List.map_cons]
        show ks.length + 1 ≤ (ndOf k).sz + szs (ks.map ndOf)
        omega
    refine ⟨rfl, rfl, [[.fsl no true zo o, .agg [.int .i64 N.tag, .fsl n1 c1 z1 (u8s N.bytes), .fsl n2 c2 z2 ks]]], by simp, Splits.self _, fun ys hy => ?_⟩
    rw [List.mem_singleton] at hy
    subst hy
    obtain ⟨nb, cb, zb, hzb, q⟩ := pu_runs (d := d) (no := no) (zo := zo) (o := o) (t := N.tag) (n1 := n1) (c1 := c1) (n2 := n2) (c2 := c2) hz1 hz2 hkk (by omega) (by omega) ks.length 0 n1 c1 z1 (by omega) (by simpa [wrs] using hz1)
    simp only [List.take_zero, List.map_nil, wrs, List.append_nil] at q
    have hwl := wrs_len (ks.map ndOf)
    have hls : LoopsOK Try.prog hint (acall Try.prog hint (ovrOf (puT' d))) (ltab [(33, 58, LF 33 0 (oneF (puV no zo o n1 c1 z1 (u8s N.bytes) n2 c2 z2 ks 0) (ndB N.tag n1 c1 z1 (u8s N.bytes) n2 c2 z2 ks) (.exit 0) (puV no zo o nb cb zb (u8s (N.bytes ++ wrs (ks.map ndOf))) n2 c2 z2 ks (ks.length : Int)) (ndB N.tag n1 c1 z1 (u8s N.bytes) n2 c2 z2 ks)))]) := by
      refine ltab_cons (by kernel_rfl) (loopF_ok fun vs bx e vs' bx' hm => ?_) ltab_nil
      obtain ⟨rfl, rfl, rfl, rfl, rfl⟩ := oneF_mem hm
      exact q
    have hb := pu_call (cPut d) gPut cLen gLen no zo o (u8s (N.bytes ++ wrs (ks.map ndOf))) N.tag n1 c1 z1 (u8s N.bytes) n2 c2 z2 ks nb cb zb
    have hlen : (N.bytes ++ wrs (ks.map ndOf)).length ≤ 100000000 := by rw [List.length_append]; omega
    have hgl : gLen (((u8s (N.bytes ++ wrs (ks.map ndOf))).length : Nat) : Int) = u8s (lenB (N.bytes ++ wrs (ks.map ndOf)).length) := by unfold gLen; rw [Int.toNat_natCast, u8s_len]
    have hl5 := lenB_len (N.bytes ++ wrs (ks.map ndOf)).length
    rw [hgl, iv_u8_one] at hb
    have hw : o ++ gPut (ndV N.tag n1 c1 z1 (u8s N.bytes) n2 c2 z2 ks) = o ++ u8s [u8of N.tag] ++ u8s (lenB (N.bytes ++ wrs (ks.map ndOf)).length) ++ u8s (N.bytes ++ wrs (ks.map ndOf)) := by
      unfold gPut
      rw [hN, wr_mk, hk, List.append_assoc, List.append_assoc, ← u8s_app, ← u8s_app]
      rfl
    refine ⟨noGd_of rfl, puT' d, _, tab_cons ih (tab_cons length_known tab_nil), hls, 30, .osl 0 0, [.row 0 false 1 _], .fsl none false 1 _, [0], hb.trans (bif_step sameS_t (bif_step (decide_eq_true ?_) (bif_step ?_ (bif_step (decide_eq_true ?_) (bif_step (decide_eq_true ?_) rfl))))), rfl, ?_⟩
    · refine ⟨h1, .inr (by simp [u8s]), ?_, ?_⟩
      · rw [roomB_nat, u8s_len]; simp only [List.length_cons, List.length_nil]; omega
      · rw [maxLen_val, u8s_len]; simp only [List.length_cons, List.length_nil]; omega
    · unfold cLen
      rw [List.length_append, u8s_len, u8s_len]
      exact decide_eq_true ⟨by omega, by omega, by simp only [List.length_cons, List.length_nil]; omega⟩
    · rw [u8s_len]
      exact hzb.imp id fun h => by rw [h]; rfl
    · rw [roomB_nat, maxLen_val, List.length_append, List.length_append, u8s_len, u8s_len, u8s_len]
      simp only [List.length_cons, List.length_nil]
      omega
    · rw [hw]
      exact Wk.refl _
end
end Go.Proofs.Ytolpgbgmldpneaa
