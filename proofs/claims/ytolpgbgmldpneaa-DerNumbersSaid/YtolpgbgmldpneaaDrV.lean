/- Which values are right: both programs. It bears no condition. -/
import Derived.Test.YtolpgbgmldpneaaDrS
namespace Go.Proofs.Ytolpgbgmldpneaa
open Go Go.Im
set_option linter.unusedVariables false
set_option linter.unusedSimpArgs false
set_option maxRecDepth 20000
noncomputable section

theorem cN_of {d : Nat} {x : IV} (h : cD d x = true) : cN x = true := by
  unfold cD at h
  simp only [Bool.and_eq_true] at h
  exact h.1
theorem kids_ks {d : Nat} {z : Nat} {ks : List IV} (hz : z = 3 ∨ ks = []) (hl : ks.length ≤ 100000000) (hk : ∀ k ∈ ks, cD d k = true ∧ okNd k = true) : cKs z ks = true := by
  unfold cKs
  rw [decide_eq_true ⟨hz.imp id fun h => by rw [h]; rfl, hl⟩, Bool.true_and, List.all_eq_true]
  exact fun x hx => cN_of (hk x hx).1
theorem wels_all : ∀ ks : List Nd, wels ks = ks.all Nd.wel
  | [] => rfl
  | k :: ks => by unfold wels; rw [wels_all ks]; rfl
theorem cF_of {t : Int} {z : Nat} {b : List UInt8} (hz : z = 1 ∨ b = []) (hl : b.length ≤ 140737488355328) : cFt t z (u8s b) = true := by
  unfold cFt cIx
  rw [okB_u8s, u8s_len, decide_eq_true ⟨hz.imp id fun h => by rw [h]; rfl, hl⟩]; rfl
theorem len0 (b : List UInt8) : (((u8s b).length : Int) == 0) = b.isEmpty := by
  rw [u8s_len]
  cases b with
  | nil => rfl
  | cons x r => simp only [List.length_cons, List.isEmpty_cons]; exact beq_eq_false_iff_ne.2 (by omega)
theorem klen0 {α : Type} (ks : List α) : ((ks.length : Int) == 0) = ks.isEmpty := by
  cases ks with
  | nil => rfl
  | cons x r => simp only [List.length_cons, List.isEmpty_cons]; exact beq_eq_false_iff_ne.2 (by omega)
theorem wel_mk (n : Nd) : n.wel = bif !gMany n.tag then n.kids.isEmpty && fitsB n.tag n.bytes else wels n.kids && (n.bytes.isEmpty && (n.tag == 48 || adjB leB n.kids)) := by cases n; unfold Nd.wel; rfl
/-! ### Well -/
def gWel (x : IV) : Bool := (ndOf x).wel
abbrev weT' (d : Nat) : FuncId → Option SpecF := weT (cD d) gWel cFt gFt cKs gRis
theorem we_runs {d : Nat} {t : Int} {n1 : Option Bool} {c1 : Bool} {z1 : Nat} {bs : List IV} {n2 : Option Bool} {c2 : Bool} {z2 : Nat} {ks : List IV} (hz : z2 = 3 ∨ ks = []) (hk : ∀ k ∈ ks, cD d k = true ∧ okNd k = true) (hl : ks.length ≤ 100000000) :
    EachOK Try.prog hint (acall Try.prog hint (ovrOf (weT' d))) 0 (hint.kp 36) (loopAt Try.prog 36 58) (Sx 36 [.ptr 0 0, .bool false, .int .i64 ((0 : Nat) : Int)] (ndB t n1 c1 z1 bs n2 c2 z2 ks)) (.exit 0)
      (fun _ : Unit => Sx 36 [.ptr 0 0, .bool false, .int .i64 (ks.length : Int)] (ndB t n1 c1 z1 bs n2 c2 z2 ks)) (foldE (fun i (_ : Unit) k => if (!gWel k) = true then .inr (Ex.ret, Sx 36 [.ptr 0 0, .bool false, .int .i64 (i : Int)] (ndB t n1 c1 z1 bs n2 c2 z2 ks)) else .inl ()) 0 () ks) := by
  refine runs_each (X := Unit) (l := ks) (n := 30) (ls := fun _ _ => none) loops_none inner0 (fun i _ => Sx 36 [.ptr 0 0, .bool false, .int .i64 (i : Int)] (ndB t n1 c1 z1 bs n2 c2 z2 ks)) _
    (fun _ _ => True) (by simp) ?_ ?_ ks.length 0 () (by omega) trivial
  · intro i u hi _
    obtain ⟨k1, k2⟩ := hk _ (List.getElem_mem hi)
    have hz3 : z2 = 3 := hz.resolve_right fun h => by rw [h] at hi; simp at hi
    have ht := we_in (cD d) gWel cFt gFt cKs gRis t n1 c1 z1 bs n2 c2 z2 ks i
    obtain ⟨e1, e2⟩ := kid_cells k2
    rw [nthD_at hi, e1, e2, wadd1 (by omega)] at ht
    replace ht := fun r q => ht.trans (bif_step (r := r) (decide_eq_true (by omega)) (bif_step (decide_eq_true ⟨hz3, by omega, by omega⟩) (bif_step rfl (bif_step k1 q))))
    cases h : !gWel ks[i]
    · exact .inl ⟨(), if_neg (by simp), ht _ (bif_stepF h rfl), trivial⟩
    · exact .inr ⟨_, _, if_pos rfl, by simp, ht _ (bif_step h rfl)⟩
  · intro _ _
    have ht := we_in (cD d) gWel cFt gFt cKs gRis t n1 c1 z1 bs n2 c2 z2 ks ks.length
    exact ht.trans (bif_stepF (decide_eq_false (by omega)) rfl)
theorem all_find {α : Type} (f : α → Bool) (l : List α) : l.all f = true ↔ l.findIdx? (fun x => !f x) = none := by
  rw [List.findIdx?_eq_none_iff, List.all_eq_true]
  simp
theorem we_d : ∀ d : Nat, Known Try.prog hint 36 (welP (cD d) gWel)
  | 0 => known_each fun xs T v T1 h => by
    exfalso
    unfold welP at h
    split at h
    · simp only [List.mem_cons, List.not_mem_nil, or_false, Prod.mk.injEq, Bool.true_eq] at h
      exact no_d0 h.1
    · cases h
  | d + 1 => by
    have ih := we_d d
    refine known_ralt fits fun us T v T1 h => ?_
    unfold welP at h
    split at h
    case h_2 => cases h
    rename_i t n1 c1 z1 bs n2 c2 z2 ks
    simp only [List.mem_cons, List.not_mem_nil, or_false, Prod.mk.injEq, Bool.true_eq] at h
    obtain ⟨h3, rfl, rfl⟩ := h
    obtain ⟨N, hN, rfl, rfl, hk, hkk, hz1, hz2, hsz, hll⟩ := nd_open h3
    refine ⟨[[.agg [.int .i64 N.tag, .fsl n1 c1 z1 (u8s N.bytes), .fsl n2 c2 z2 ks]]], by simp, Splits.self _, fun ys hy => ?_⟩
    rw [List.mem_singleton] at hy
    subst hy
    have htab : ∀ f F, weT' d f = some F → Known Try.prog hint f F := tab_cons ih (tab_cons rfit_known (tab_cons rises_known tab_nil))
    have q := we_runs (d := d) (t := N.tag) (n1 := n1) (c1 := c1) (z1 := z1) (bs := u8s N.bytes) (n2 := n2) (c2 := c2) hz2 hkk (by omega)
    rw [foldE_find (fun k => !gWel k) (fun i => (Ex.ret, Sx 36 [.ptr 0 0, .bool false, .int .i64 (i : Int)] (ndB N.tag n1 c1 z1 (u8s N.bytes) n2 c2 z2 ks)))] at q
    have hg : gWel (ndV N.tag n1 c1 z1 (u8s N.bytes) n2 c2 z2 ks) = N.wel := by unfold gWel; rw [hN]
    have hw := wel_mk N
    rw [hk] at hw
    have hwa : wels (ks.map ndOf) = ks.all gWel := by rw [wels_all, List.all_map]; rfl
    rw [hwa, List.isEmpty_map] at hw
    have hmany : (bif N.tag != (48 : Int) then N.tag != (49 : Int) else false) = !gMany N.tag := by
      unfold gMany
      cases h1 : N.tag == (48 : Int)
      · have : (N.tag != (48 : Int)) = true := by simp only [bne, h1]; rfl
        rw [this]; rfl
      · have : (N.tag != (48 : Int)) = false := by simp only [bne, h1]; rfl
        rw [this]; rfl
    rw [hg]
    cases hf : ks.findIdx? (fun k => !gWel k) with
    | none =>
      rw [hf] at q
      have hall : ks.all gWel = true := (all_find gWel ks).2 hf
      rw [hall] at hw
      have hls : LoopsOK Try.prog hint (acall Try.prog hint (ovrOf (weT' d))) (ltab [(36, 58, LF 36 0 (oneF [.ptr 0 0, .bool false, .int .i64 0] (ndB N.tag n1 c1 z1 (u8s N.bytes) n2 c2 z2 ks) (.exit 0) [.ptr 0 0, .bool false, .int .i64 (ks.length : Int)] (ndB N.tag n1 c1 z1 (u8s N.bytes) n2 c2 z2 ks)))]) := by
        refine ltab_cons (by kernel_rfl) (loopF_ok fun vs bx e vs' bx' hm => ?_) ltab_nil
        obtain ⟨rfl, rfl, rfl, rfl, rfl⟩ := oneF_mem hm
        exact q
      refine ⟨noGd_of rfl, weT' d, _, htab, hls, 30, _, Wk.refl _, (we_yes (cD d) gWel cFt gFt cKs gRis N.tag n1 c1 z1 (u8s N.bytes) n2 c2 z2 ks ks.length).trans ?_⟩
      rw [hmany, len0, klen0, hw]
      cases hm : !gMany N.tag
      · rw [cond_false, cond_false, Bool.true_and]
        refine bif_step sameS_t ?_
        cases hb : N.bytes.isEmpty
        · cases h48 : N.tag == 48 <;> rfl
        · cases h48 : N.tag == 48
          · refine bif_step rfl (bif_step (kids_ks hz2 (by omega) hkk) ?_)
            rfl
          · rfl
      · rw [cond_true, cond_true]
        cases hb : ks.isEmpty
        · rfl
        · refine bif_step rfl (bif_step (cF_of hz1 (by omega)) ?_)
          unfold gFt
          rw [toBytes_u8s]; rfl
    | some j =>
      rw [hf] at q
      have hall : ks.all gWel = false := by
        cases ha : ks.all gWel
        · rfl
        · rw [(all_find gWel ks).1 ha] at hf; cases hf
      rw [hall] at hw
      have hls : LoopsOK Try.prog hint (acall Try.prog hint (ovrOf (weT' d))) (ltab [(36, 58, LF 36 0 (oneF [.ptr 0 0, .bool false, .int .i64 0] (ndB N.tag n1 c1 z1 (u8s N.bytes) n2 c2 z2 ks) .ret [.ptr 0 0, .bool false, .int .i64 ((j + 0 : Nat) : Int)] (ndB N.tag n1 c1 z1 (u8s N.bytes) n2 c2 z2 ks)))]) := by
        refine ltab_cons (by kernel_rfl) (loopF_ok fun vs bx e vs' bx' hm => ?_) ltab_nil
        obtain ⟨rfl, rfl, rfl, rfl, rfl⟩ := oneF_mem hm
        exact q
      refine ⟨noGd_of rfl, weT' d, _, htab, hls, 30, _, Wk.refl _, (we_no (cD d) gWel cFt gFt cKs gRis N.tag n1 c1 z1 (u8s N.bytes) n2 c2 z2 ks ((j + 0 : Nat) : Int)).trans ?_⟩
      rw [hmany, klen0, hw]
      cases hm : !gMany N.tag
      · exact bif_stepF rfl (bif_step sameS_t rfl)
      · refine bif_step rfl ?_
        cases hb : ks.isEmpty
        · rfl
        · refine bif_step rfl (bif_step (cF_of hz1 (by omega)) ?_)
          unfold gFt
          rw [toBytes_u8s]; rfl
end
end Go.Proofs.Ytolpgbgmldpneaa
