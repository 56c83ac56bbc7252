/- Which values are right: the program's walk, and the counting. It bears no condition. -/
import Derived.Test.YtolpgbgmldpneaaDrV
namespace Go.Proofs.Ytolpgbgmldpneaa
open Go Go.Im
set_option linter.unusedVariables false
set_option linter.unusedSimpArgs false
set_option maxRecDepth 20000
noncomputable section

theorem rg_mk (N : Nd) (lv n : Int) : N.rg lv n = bif (lv == 0 || decide (n - 1 < 0)) then (false, n - 1) else bif !gMany N.tag then (N.kids.isEmpty && fitsB N.tag N.bytes, n - 1) else
      bif (rgs N.kids (lv - 1) (n - 1)).1 then (N.bytes.isEmpty && (N.tag == 48 || adjB leB N.kids), (rgs N.kids (lv - 1) (n - 1)).2) else (false, (rgs N.kids (lv - 1) (n - 1)).2) := by cases N; unfold Nd.rg; rfl
def cRg (d : Nat) (x : IV) (lv n : Int) : Bool := cD d x && decide ((0 ≤ lv ∧ lv ≤ 16) ∧ 0 ≤ n ∧ n ≤ 4096)
def gRg (x : IV) (lv n : Int) : Bool := ((ndOf x).rg lv n).1
def gRl (x : IV) (lv n : Int) : Int := ((ndOf x).rg lv n).2
abbrev rgT' (d : Nat) : FuncId → Option SpecF := rgT (cRg d) gRg gRl gMany cFt gFt cKs gRis
/-- What a round leaves, or how it ends. -/
def rgStep (lv : Int) (S : Int → Nat → St) (i : Nat) (n : Int) (k : IV) : Int ⊕ (Ex × St) := if (!gRg k (lv - 1) n) = true then .inr (.ret, S (gRl k (lv - 1) n) i) else .inl (gRl k (lv - 1) n)
theorem rg_fold (lv : Int) (S : Int → Nat → St) : ∀ (ks : List IV) (i : Nat) (n : Int), ((rgs (ks.map ndOf) (lv - 1) n).1 = true ∧ foldE (rgStep lv S) i n ks = .inl (rgs (ks.map ndOf) (lv - 1) n).2) ∨ ((rgs (ks.map ndOf) (lv - 1) n).1 = false ∧ ∃ j, foldE (rgStep lv S) i n ks = .inr (.ret, S (rgs (ks.map ndOf) (lv - 1) n).2 j))
  | [], i, n => .inl ⟨by simp [rgs], by simp [foldE, rgs]⟩
  | k :: ks, i, n => by
    have ih := rg_fold lv S ks (i + 1) (gRl k (lv - 1) n)
    rw [List.map_cons]
    unfold foldE rgs rgStep
    have e1 : ((ndOf k).rg (lv - 1) n).1 = gRg k (lv - 1) n := rfl
    have e2 : ((ndOf k).rg (lv - 1) n).2 = gRl k (lv - 1) n := rfl
    rw [e1, e2]
    cases h : gRg k (lv - 1) n
    · simp only [Bool.not_false, if_true, cond_false]
      exact .inr ⟨trivial, i, rfl⟩
    · simp only [Bool.not_true, Bool.false_eq_true, if_false, cond_true]
      exact ih
theorem rg_runs {d : Nat} {lv : Int} (hlv : 1 ≤ lv ∧ lv ≤ 16) {t : Int} {n1 : Option Bool} {c1 : Bool} {z1 : Nat} {bs : List IV} {n2 : Option Bool} {c2 : Bool} {z2 : Nat} {ks : List IV} (hz : z2 = 3 ∨ ks = []) (hk : ∀ k ∈ ks, cD d k = true ∧ okNd k = true) (hl : ks.length ≤ 100000000) {n0 : Int} (hn0 : 0 ≤ n0 ∧ n0 ≤ 4096) :
    EachOK Try.prog hint (acall Try.prog hint (ovrOf (rgT' d))) 1 (hint.kp 35) (loopAt Try.prog 35 250) (Sx 35 (rgV lv n2 c2 z2 ks ((0 : Nat) : Int)) (rgB n0 t n1 c1 z1 bs n2 c2 z2 ks)) (.exit 0)
      (fun n : Int => Sx 35 (rgV lv n2 c2 z2 ks (ks.length : Int)) (rgB n t n1 c1 z1 bs n2 c2 z2 ks)) (foldE (rgStep lv fun n i => Sx 35 (rgV lv n2 c2 z2 ks (i : Int)) (rgB n t n1 c1 z1 bs n2 c2 z2 ks)) 0 n0 ks) := by
  refine runs_each (X := Int) (l := ks) (n := 30) (ls := fun _ _ => none) loops_none inner0 (fun i n => Sx 35 (rgV lv n2 c2 z2 ks (i : Int)) (rgB n t n1 c1 z1 bs n2 c2 z2 ks)) _
    (fun _ n => 0 ≤ n ∧ n ≤ 4096) (by simp) ?_ ?_ ks.length 0 n0 (by omega) hn0
  · intro i n hi hn
    obtain ⟨k1, k2⟩ := hk _ (List.getElem_mem hi)
    have hz3 : z2 = 3 := hz.resolve_right fun h => by rw [h] at hi; simp at hi
    have ht := rg_in (cRg d) gRg gRl gMany cFt gFt cKs gRis lv n t n1 c1 z1 bs n2 c2 z2 ks i
    have w : IntKind.i64.wrap (lv - 1) = lv - 1 := by rw [wrap_i64]; omega
    rw [nthD_at hi, kdV_eq k2, kdT k2, w, wadd1 (by omega)] at ht
    have hc : cRg d ks[i] (lv - 1) n = true := by unfold cRg; rw [k1, decide_eq_true ⟨by omega, hn⟩]; rfl
    replace ht := fun r q => ht.trans (bif_step (r := r) (decide_eq_true (by omega)) (bif_step (decide_eq_true ⟨hz3, by omega, by omega⟩) (bif_step rfl (bif_step hc q))))
    obtain ⟨a1, a2, a3, a4⟩ := rg_eq (ndOf ks[i]) (lv - 1) n (by omega) hn.1
    unfold rgStep
    cases h : gRg ks[i] (lv - 1) n
    · exact .inr ⟨_, _, if_pos rfl, by simp, ht _ (bif_step (by rw [h]; rfl) rfl)⟩
    · refine .inl ⟨_, if_neg (by simp), ht _ (bif_stepF (by rw [h]; rfl) rfl), ?_, ?_⟩
      · have e := a2 h
        have h5 : ((ndOf ks[i]).wel && decide (((ndOf ks[i]).num : Int) ≤ n ∧ ((ndOf ks[i]).dp : Int) ≤ lv - 1)) = true := by rw [← a1]; exact h
        rw [Bool.and_eq_true, decide_eq_true_eq] at h5
        show 0 ≤ ((ndOf ks[i]).rg (lv - 1) n).2
        omega
      · show ((ndOf ks[i]).rg (lv - 1) n).2 ≤ 4096
        omega
  · intro n _
    have ht := rg_in (cRg d) gRg gRl gMany cFt gFt cKs gRis lv n t n1 c1 z1 bs n2 c2 z2 ks ks.length
    exact ht.trans (bif_stepF (decide_eq_false (by omega)) rfl)
theorem rg_d : ∀ d : Nat, Known Try.prog hint 35 (rgP (cRg d) gRg gRl)
  | 0 => known_each fun xs T v T1 h => by
    exfalso
    unfold rgP at h
    split at h
    · simp only [List.mem_cons, List.not_mem_nil, or_false, Prod.mk.injEq, Bool.true_eq, cRg, Bool.and_eq_true] at h
      exact no_d0 h.1.1
    · cases h
  | d + 1 => by
    have ih := rg_d d
    refine known_ralt fits fun us T v T1 h => ?_
    unfold rgP at h
    split at h
    case h_2 => cases h
    rename_i t n1 c1 z1 bs n2 c2 z2 ks lv n
    simp only [List.mem_cons, List.not_mem_nil, or_false, Prod.mk.injEq, Bool.true_eq, cRg, Bool.and_eq_true, decide_eq_true_eq] at h
    obtain ⟨⟨h3, hlv, hn⟩, rfl, rfl⟩ := h
    obtain ⟨N, hN, rfl, rfl, hk, hkk, hz1, hz2, hsz, hll⟩ := nd_open h3
    refine ⟨[[.agg [.int .i64 N.tag, .fsl n1 c1 z1 (u8s N.bytes), .fsl n2 c2 z2 ks], .int .i64 lv, .ptr 0 0]], by simp, Splits.self _, fun ys hy => ?_⟩
    rw [List.mem_singleton] at hy
    subst hy
    have htab : ∀ f F, rgT' d f = some F → Known Try.prog hint f F := tab_cons ih (tab_cons many_known (tab_cons fit_known (tab_cons ordered_known tab_nil)))
    have hr := rg_mk N lv n
    rw [hk, List.isEmpty_map] at hr
    have hg1 : gRg (ndV N.tag n1 c1 z1 (u8s N.bytes) n2 c2 z2 ks) lv n = (N.rg lv n).1 := by unfold gRg; rw [hN]
    have hg2 : gRl (ndV N.tag n1 c1 z1 (u8s N.bytes) n2 c2 z2 ks) lv n = (N.rg lv n).2 := by unfold gRl; rw [hN]
    have w : IntKind.i64.wrap (n - 1) = n - 1 := by rw [wrap_i64]; omega
    rw [hg1, hg2, hr]
    have hno : LoopsOK Try.prog hint (acall Try.prog hint (ovrOf (rgT' d))) (ltab [(35, 250, noL)]) := ltab_cons (by kernel_rfl) (fun p s e s' h => by cases h) ltab_nil
    by_cases h0 : lv = 0 ∨ n - 1 < 0
    · have e : (lv == 0 || decide (n - 1 < 0)) = true := by
        rcases h0 with h0 | h0
        · rw [h0]; rfl
        · rw [decide_eq_true h0, Bool.or_true]
      rw [e, cond_true]
      refine ⟨noGd_of rfl, rgT' d, _, htab, hno, 30, _, Wk.refl _, (rg_leaf (cRg d) gRg gRl gMany cFt gFt cKs gRis lv n 0 N.tag n1 c1 z1 (u8s N.bytes) n2 c2 z2 ks).trans ?_⟩
      rw [w]
      by_cases hl0 : lv = 0
      · exact bif_stepF (by rw [hl0]; rfl) rfl
      · have h1 : n - 1 < 0 := h0.resolve_left hl0
        exact bif_step (by rw [show (lv == 0) = false from beq_eq_false_iff_ne.2 hl0]; rfl) (bif_step (by rw [decide_eq_true h1]; rfl) rfl)
    have hl0 : (lv == 0) = false := beq_eq_false_iff_ne.2 (by omega)
    have hn1 : decide (n - 1 < 0) = false := decide_eq_false (by omega)
    rw [hl0, hn1, Bool.or_self, cond_false]
    cases hm : !gMany N.tag
    case true =>
      rw [cond_true]
      refine ⟨noGd_of rfl, rgT' d, _, htab, hno, 30, _, Wk.refl _, (rg_leaf (cRg d) gRg gRl gMany cFt gFt cKs gRis lv n 0 N.tag n1 c1 z1 (u8s N.bytes) n2 c2 z2 ks).trans ?_⟩
      rw [w, hl0, hn1, hm, klen0]
      refine bif_step rfl (bif_stepF rfl (bif_step rfl ?_))
      cases hb : ks.isEmpty
      · rfl
      · refine bif_step rfl (bif_step (cF_of hz1 (by omega)) ?_)
        unfold gFt
        rw [toBytes_u8s]; rfl
    case false =>
    rw [cond_false]
    have q := rg_runs (d := d) (lv := lv) (by omega) (t := N.tag) (n1 := n1) (c1 := c1) (z1 := z1) (bs := u8s N.bytes) (n2 := n2) (c2 := c2) hz2 hkk (by omega) (n0 := n - 1) (by omega)
    rcases rg_fold lv (fun n i => Sx 35 (rgV lv n2 c2 z2 ks (i : Int)) (rgB n N.tag n1 c1 z1 (u8s N.bytes) n2 c2 z2 ks)) ks 0 (n - 1) with ⟨hv, hf⟩ | ⟨hv, j, hf⟩
    · rw [hf] at q
      rw [hv, cond_true]
      generalize (rgs (ks.map ndOf) (lv - 1) (n - 1)).2 = cnt at *
      have hls : LoopsOK Try.prog hint (acall Try.prog hint (ovrOf (rgT' d))) (ltab [(35, 250, LF 35 1 (oneF (rgV lv n2 c2 z2 ks 0) (rgB (IntKind.i64.wrap (n - 1)) N.tag n1 c1 z1 (u8s N.bytes) n2 c2 z2 ks) (.exit 0) (rgV lv n2 c2 z2 ks (ks.length : Int)) (rgB cnt N.tag n1 c1 z1 (u8s N.bytes) n2 c2 z2 ks)))]) := by
        refine ltab_cons (by kernel_rfl) (loopF_ok fun vs bx e vs' bx' hm => ?_) ltab_nil
        obtain ⟨rfl, rfl, rfl, rfl, rfl⟩ := oneF_mem hm
        rw [w]
        exact q
      refine ⟨noGd_of rfl, rgT' d, _, htab, hls, 30, _, Wk.refl _, (rg_yes (cRg d) gRg gRl gMany cFt gFt cKs gRis lv n cnt N.tag n1 c1 z1 (u8s N.bytes) n2 c2 z2 ks).trans ?_⟩
      rw [w, hl0, hn1, hm, len0]
      have w' := w
      refine bif_step rfl (bif_stepF rfl (bif_stepF rfl (bif_step (by first | exact sameS_t | (rw [← w]; exact sameS_t)) ?_)))
      cases hb : N.bytes.isEmpty
      · cases h48 : N.tag == 48 <;> rfl
      · cases h48 : N.tag == 48
        · refine bif_step rfl (bif_step (kids_ks hz2 (by omega) hkk) ?_)
          rfl
        · rfl
    · rw [hf] at q
      rw [hv, cond_false]
      generalize (rgs (ks.map ndOf) (lv - 1) (n - 1)).2 = cnt at *
      have hls : LoopsOK Try.prog hint (acall Try.prog hint (ovrOf (rgT' d))) (ltab [(35, 250, LF 35 1 (oneF (rgV lv n2 c2 z2 ks 0) (rgB (IntKind.i64.wrap (n - 1)) N.tag n1 c1 z1 (u8s N.bytes) n2 c2 z2 ks) .ret (rgV lv n2 c2 z2 ks (j : Int)) (rgB cnt N.tag n1 c1 z1 (u8s N.bytes) n2 c2 z2 ks)))]) := by
        refine ltab_cons (by kernel_rfl) (loopF_ok fun vs bx e vs' bx' hm => ?_) ltab_nil
        obtain ⟨rfl, rfl, rfl, rfl, rfl⟩ := oneF_mem hm
        rw [w]
        exact q
      refine ⟨noGd_of rfl, rgT' d, _, htab, hls, 30, _, Wk.refl _, (rg_no (cRg d) gRg gRl gMany cFt gFt cKs gRis lv n cnt N.tag n1 c1 z1 (u8s N.bytes) n2 c2 z2 ks (j : Int)).trans ?_⟩
      rw [w, hl0, hn1, hm]
      exact bif_step rfl (bif_stepF rfl (bif_stepF rfl (bif_step (by first | exact sameS_t | (rw [← w]; exact sameS_t)) rfl)))
def gRight (x : IV) : Bool := ((ndOf x).rg 16 4096).1
theorem right_known : Known Try.prog hint 14 (welP cN gRight) := known_each fun xs T v T1 h => by
  unfold welP at h
  split at h
  case h_2 => cases h
  rename_i t n1 c1 z1 bs n2 c2 z2 ks
  simp only [List.mem_cons, List.not_mem_nil, or_false, Prod.mk.injEq, Bool.true_eq] at h
  obtain ⟨h2, rfl, rfl⟩ := h
  have hK : Known Try.prog hint 14 (welP (cD (ndOf (ndV t n1 c1 z1 bs n2 c2 z2 ks)).dp) gRight) := by
    generalize (ndOf (ndV t n1 c1 z1 bs n2 c2 z2 ks)).dp = d
    refine known_of fits (spec := tab [(35, rgP (cRg d) gRg gRl)]) (tab_cons (rg_d d) tab_nil) loops_none ?_
    (intro xs T v T1 h; unfold welP at h; split at h; rotate_left; · cases h)
    rename_i t n1 c1 z1 bs n2 c2 z2 ks
    simp only [List.mem_cons, List.not_mem_nil, or_false, Prod.mk.injEq, Bool.true_eq] at h
    obtain ⟨h1, rfl, rfl⟩ := h
    exact ⟨30, (right_tree (cRg d) gRg gRl t n1 c1 z1 bs n2 c2 z2 ks).trans (bif_step (by unfold cRg; rw [h1]; rfl) rfl)⟩
  refine ⟨_, hK, ?_⟩
  unfold welP
  simp only [cD_self h2]
end
end Go.Proofs.Ytolpgbgmldpneaa
