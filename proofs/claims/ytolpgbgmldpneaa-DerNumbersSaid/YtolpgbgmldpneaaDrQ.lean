/- Values' order. It bears no condition. -/
import Derived.Test.YtolpgbgmldpneaaDrP
namespace Go.Proofs.Ytolpgbgmldpneaa
open Go Go.Im
set_option linter.unusedVariables false
set_option linter.unusedSimpArgs false
set_option maxRecDepth 20000
noncomputable section

theorem kdV_eq {x : IV} (h : okNd x = true) : kdV x = x := (kid_cells h).1
theorem kdT {x : IV} (h : okNd x = true) : testAll ([LT.i IntKind.i64] ++ ([LT.sl] ++ ([LT.sl] ++ []))) 0 x.cells = true := (kid_cells h).2
theorem nthP_at {l : List IV} {j : Nat} (h : j < l.length) (hl : l.length ≤ 100000000) : nthP l ((j + 1 : Nat) : Int) = l[j] := by
  unfold nthP
  have : IntKind.i64.wrap (((j + 1 : Nat) : Int) - 1) = (j : Int) := by rw [wrap_i64]; omega
  rw [this, nthD_at h]
/-! ### Plain -/
def nilN : Nd := .mk 0 [] []
/-- Do neighbours stand so? -/
def adjB (r : Nd → Nd → Bool) (l : List Nd) : Bool := (List.range (l.length - 1)).all fun j => r (l.getD j nilN) (l.getD (j + 1) nilN)
def leB (a b : Nd) : Bool := decide (Lib.compareBytes a.wr b.wr ≤ 0)
theorem cmp_less : ∀ x y : List UInt8, decide (Lib.compareBytes x y ≤ 0) = !(Op.bytesLess y x)
  | [], [] => rfl
  | [], _ :: _ => rfl
  | _ :: _, [] => rfl
  | a :: x, b :: y => by
    have ih := cmp_less x y
    unfold Lib.compareBytes Op.bytesLess
    by_cases h1 : a < b
    · have h2 : ¬ b < a := UInt8.lt_asymm h1
      have h3 : (b == a) = false := beq_eq_false_iff_ne.2 fun e => by subst e; exact h2 h1
      simp [h1, h2, h3]
    · by_cases h2 : b < a
      · simp [h1, h2]
      · have h3 : a = b := by
          have := UInt8.le_antisymm (UInt8.not_lt.1 h2) (UInt8.not_lt.1 h1)
          exact this
        subst h3
        simp only [h1, if_false, beq_self_eq_true, Bool.true_and, decide_false, Bool.false_or]
        exact ih
/-! ### The program's -/
def cLt (a b : IV) : Bool := cN a && cN b
def gLt (a b : IV) : Bool := leB (ndOf a) (ndOf b)
theorem cPut0 {x : IV} (h : cN x = true) : (decide ((0 = 1 ∨ ([] : List IV).length = 0) ∧ ([] : List IV).length ≤ 100000000) && cN x) = true := by rw [h]; rfl
theorem lt_known : Known Try.prog hint 59 (ltP cLt gLt) := by
  refine known_of fits (spec := tab [(33, putP (fun zo o x => decide ((zo = 1 ∨ o.length = 0) ∧ o.length ≤ 100000000) && cN x) gPut), (60, cmpP cCmp gCmp)]) (tab_cons put_known (tab_cons cmp_known tab_nil)) loops_none ?_
  (intro xs T v T1 h; unfold ltP at h; split at h; rotate_left; · cases h)
  rename_i t n1 c1 z1 bs n2 c2 z2 ks t' n1' c1' z1' bs' n2' c2' z2' ks'
  simp only [List.mem_cons, List.not_mem_nil, or_false, Prod.mk.injEq, Bool.true_eq, cLt, Bool.and_eq_true] at h
  obtain ⟨⟨h1, h2⟩, rfl, rfl⟩ := h
  refine ⟨30, (lt_tree _ gPut cCmp gCmp t n1 c1 z1 bs n2 c2 z2 ks t' n1' c1' z1' bs' n2' c2' z2' ks').trans (bif_step (cPut0 h1) (bif_step (cPut0 h2) (bif_step ?_ ?_)))⟩
  · unfold cCmp gPut
    rw [List.nil_append, List.nil_append, okB_u8s, okB_u8s]; rfl
  · unfold gCmp gPut gLt leB
    rw [List.nil_append, List.nil_append, toBytes_u8s, toBytes_u8s]
def cKs (z : Nat) (l : List IV) : Bool := decide ((z = 3 ∨ l.length = 0) ∧ l.length ≤ 100000000) && l.all cN
def gRis (l : List IV) : Bool := adjB leB (l.map ndOf)
theorem cN_ok {x : IV} (h : cN x = true) : okNd x = true := by
  unfold cN at h
  simp only [Bool.and_eq_true] at h
  exact h.1
theorem getD_map {l : List IV} {j : Nat} (h : j < l.length) : (l.map ndOf).getD j nilN = ndOf l[j] := by simp [List.getD, h]
theorem all_idx {α : Type} (f : α → Bool) (l : List α) : l.all f = decide ((match l.findIdx? (fun x => !f x) with | none => (0 : Int) | some _ => 1) = 0) := by
  induction l with
  | nil => rfl
  | cons x l ih =>
    rw [List.all_cons, List.findIdx?_cons, ih]
    cases f x
    · rfl
    · simp only [Bool.true_and, Bool.not_true, Bool.false_eq_true, if_false]
      cases l.findIdx? (fun x => !f x) <;> rfl
theorem ri_runs {l : List IV} (hl : l.length ≤ 100000000) (ha : ∀ x ∈ l, cN x = true) {nl : Option Bool} {cl : Bool} {z : Nat} (hz : z = 3 ∨ l = []) :
    EachOK Try.prog hint (acall Try.prog hint (ovrOf (tab [(59, ltP cLt gLt)]))) 0 (hint.kp 58) (loopAt Try.prog 58 26) (Sx 58 [.fsl nl cl z l, .fn 59 [], .bool false, .int .i64 ((0 + 1 : Nat) : Int)] []) (.exit 0)
      (fun _ : Unit => Sx 58 [.fsl nl cl z l, .fn 59 [], .bool false, .int .i64 ((l.length - 1 + 1 : Nat) : Int)] []) (foldE (fun j (_ : Unit) k => if (!(leB ((l.map ndOf).getD k nilN) ((l.map ndOf).getD (k + 1) nilN))) = true then .inr (Ex.ret, Sx 58 [.fsl nl cl z l, .fn 59 [], .bool false, .int .i64 ((j + 1 : Nat) : Int)] []) else .inl ()) 0 () (List.range (l.length - 1))) := by
  have key := runs_each (P := Try.prog) (H := hint) (spec := tab [(59, ltP cLt gLt)]) (f := 58) (q := 26) (p := 0) (X := Unit) (l := List.range (l.length - 1)) (n := 30) (ls := fun _ _ => none) loops_none inner0 (fun j _ => Sx 58 [.fsl nl cl z l, .fn 59 [], .bool false, .int .i64 ((j + 1 : Nat) : Int)] [])
    (fun _ => Sx 58 [.fsl nl cl z l, .fn 59 [], .bool false, .int .i64 ((l.length - 1 + 1 : Nat) : Int)] []) (fun _ _ => True) (g := fun j (_ : Unit) k => if (!(leB ((l.map ndOf).getD k nilN) ((l.map ndOf).getD (k + 1) nilN))) = true then .inr (Ex.ret, Sx 58 [.fsl nl cl z l, .fn 59 [], .bool false, .int .i64 ((j + 1 : Nat) : Int)] []) else .inl ()) (e := .exit 0) (by simp) ?_ ?_ (List.range (l.length - 1)).length 0 () (by omega) trivial
  · rw [List.drop_zero] at key; exact key
  · intro j u hj _
    rw [List.length_range] at hj
    have hj1 : j < l.length := by omega
    have hj2 : j + 1 < l.length := by omega
    have hz3 : z = 3 := hz.resolve_right fun h => by rw [h] at hj1; simp at hj1
    have k1 := cN_ok (ha _ (List.getElem_mem hj1))
    have k2 := cN_ok (ha _ (List.getElem_mem hj2))
    have ht := ri_in cLt gLt nl cl z l ((j + 1 : Nat) : Int)
    have w : IntKind.i64.wrap (((j + 1 : Nat) : Int) - 1) = (j : Int) := by rw [wrap_i64]; omega
    rw [nthP_at hj1 hl, nthD_at hj2, kdV_eq k1, kdV_eq k2, w, wadd1 (by omega)] at ht
    have hc : cLt l[j] l[j + 1] = true := by unfold cLt; rw [ha _ (List.getElem_mem hj1), ha _ (List.getElem_mem hj2)]; rfl
    replace ht := fun r q => ht.trans (bif_step (r := r) (decide_eq_true (by omega)) (bif_step (decide_eq_true ⟨hz3, by omega, by omega⟩) (bif_step (kdT k1) (bif_step (decide_eq_true ⟨hz3, by omega, by omega⟩) (bif_step (kdT k2) (bif_step hc q))))))
    rw [List.getElem_range, getD_map hj1, getD_map hj2]
    cases h : leB (ndOf l[j]) (ndOf l[j + 1])
    · exact .inr ⟨_, _, if_pos rfl, by simp, ht _ (bif_step (by unfold gLt; rw [h]; rfl) rfl)⟩
    · exact .inl ⟨(), if_neg (by simp), ht _ (bif_stepF (by unfold gLt; rw [h]; rfl) rfl), trivial⟩
  · intro _ _
    rw [List.length_range]
    have ht := ri_in cLt gLt nl cl z l ((l.length - 1 + 1 : Nat) : Int)
    exact ht.trans (bif_stepF (decide_eq_false (by omega)) rfl)
theorem cKs_open {z : Nat} {l : List IV} (h : cKs z l = true) : (z = 3 ∨ l = []) ∧ l.length ≤ 100000000 ∧ ∀ x ∈ l, cN x = true := by
  unfold cKs at h
  simp only [Bool.and_eq_true, decide_eq_true_eq] at h
  exact ⟨h.1.1.imp id List.length_eq_zero_iff.1, h.1.2, fun x hx => List.all_eq_true.1 h.2 x hx⟩
theorem ris_known : Known Try.prog hint 58 (risP cKs gRis) := by
  refine known_alt fits fun us T v T1 h => ?_
  unfold risP at h
  split at h
  case h_2 => cases h
  rename_i nl cl z l
  simp only [List.mem_cons, List.not_mem_nil, or_false, Prod.mk.injEq, Bool.true_eq] at h
  obtain ⟨h1, rfl, rfl⟩ := h
  obtain ⟨hz, hl, ha⟩ := cKs_open h1
  refine ⟨[[.fsl nl cl z l, .fn 59 []]], by simp, Splits.self _, fun ys hy => ?_⟩
  rw [List.mem_singleton] at hy
  subst hy
  have q := ri_runs hl ha (nl := nl) (cl := cl) hz
  rw [foldE_find (fun k => !(leB ((l.map ndOf).getD k nilN) ((l.map ndOf).getD (k + 1) nilN))) (fun j => (Ex.ret, Sx 58 [.fsl nl cl z l, .fn 59 [], .bool false, .int .i64 ((j + 1 : Nat) : Int)] []))] at q
  unfold gRis adjB
  rw [List.length_map, all_idx]
  cases hf : (List.range (l.length - 1)).findIdx? (fun k => !(leB ((l.map ndOf).getD k nilN) ((l.map ndOf).getD (k + 1) nilN))) with
  | none =>
    rw [hf] at q
    have hls : LoopsOK Try.prog hint (acall Try.prog hint (ovrOf (tab [(59, ltP cLt gLt)]))) (ltab [(58, 26, LF 58 0 (oneF [.fsl nl cl z l, .fn 59 [], .bool false, .int .i64 1] [] (.exit 0) [.fsl nl cl z l, .fn 59 [], .bool false, .int .i64 ((l.length - 1 + 1 : Nat) : Int)] []))]) := by
      refine ltab_cons (by kernel_rfl) (loopF_ok fun vs bx e vs' bx' hm => ?_) ltab_nil
      obtain ⟨rfl, rfl, rfl, rfl, rfl⟩ := oneF_mem hm
      exact q
    exact ⟨noGd_of rfl, _, _, tab_cons lt_known tab_nil, hls, 30, _, Wk.refl _, (ri_yes cLt gLt nl cl z l ((l.length - 1 + 1 : Nat) : Int)).trans (bif_step sameS_t rfl)⟩
  | some j =>
    rw [hf] at q
    have hls : LoopsOK Try.prog hint (acall Try.prog hint (ovrOf (tab [(59, ltP cLt gLt)]))) (ltab [(58, 26, LF 58 0 (oneF [.fsl nl cl z l, .fn 59 [], .bool false, .int .i64 1] [] .ret [.fsl nl cl z l, .fn 59 [], .bool false, .int .i64 ((j + 0 + 1 : Nat) : Int)] []))]) := by
      refine ltab_cons (by kernel_rfl) (loopF_ok fun vs bx e vs' bx' hm => ?_) ltab_nil
      obtain ⟨rfl, rfl, rfl, rfl, rfl⟩ := oneF_mem hm
      exact q
    exact ⟨noGd_of rfl, _, _, tab_cons lt_known tab_nil, hls, 30, _, Wk.refl _, (ri_no cLt gLt nl cl z l ((j + 0 + 1 : Nat) : Int)).trans (bif_step sameS_t rfl)⟩
theorem ordered_known : Known Try.prog hint 49 (ordP cKs gRis) := by
  refine known_of fits (spec := tab [(58, risP cKs gRis)]) (tab_cons ris_known tab_nil) loops_none ?_
  (intro xs T v T1 h; unfold ordP at h; split at h; rotate_left; · cases h)
  rename_i nl cl z l
  simp only [List.mem_cons, List.not_mem_nil, or_false, Prod.mk.injEq, Bool.true_eq] at h
  obtain ⟨h1, rfl, rfl⟩ := h
  exact ⟨30, (ord_tree cKs gRis nl cl z l).trans (bif_step h1 rfl)⟩

/-! ### The document's -/
theorem rs_runs {l : List IV} (hl : l.length ≤ 100000000) (ha : ∀ x ∈ l, cN x = true) {nl : Option Bool} {cl : Bool} {z : Nat} (hz : z = 3 ∨ l = []) :
    EachOK Try.prog hint (acall Try.prog hint (ovrOf (tab [(34, boP cN gPut)]))) 0 (hint.kp 50) (loopAt Try.prog 50 26) (Sx 50 [.fsl nl cl z l, .bool false, .int .i64 ((0 + 1 : Nat) : Int)] []) (.exit 0)
      (fun _ : Unit => Sx 50 [.fsl nl cl z l, .bool false, .int .i64 ((l.length - 1 + 1 : Nat) : Int)] []) (foldE (fun j (_ : Unit) k => if (!(leB ((l.map ndOf).getD k nilN) ((l.map ndOf).getD (k + 1) nilN))) = true then .inr (Ex.ret, Sx 50 [.fsl nl cl z l, .bool false, .int .i64 ((j + 1 : Nat) : Int)] []) else .inl ()) 0 () (List.range (l.length - 1))) := by
  have key := runs_each (P := Try.prog) (H := hint) (spec := tab [(34, boP cN gPut)]) (f := 50) (q := 26) (p := 0) (X := Unit) (l := List.range (l.length - 1)) (n := 30) (ls := fun _ _ => none) loops_none inner0 (fun j _ => Sx 50 [.fsl nl cl z l, .bool false, .int .i64 ((j + 1 : Nat) : Int)] [])
    (fun _ => Sx 50 [.fsl nl cl z l, .bool false, .int .i64 ((l.length - 1 + 1 : Nat) : Int)] []) (fun _ _ => True) (g := fun j (_ : Unit) k => if (!(leB ((l.map ndOf).getD k nilN) ((l.map ndOf).getD (k + 1) nilN))) = true then .inr (Ex.ret, Sx 50 [.fsl nl cl z l, .bool false, .int .i64 ((j + 1 : Nat) : Int)] []) else .inl ()) (e := .exit 0) (by simp) ?_ ?_ (List.range (l.length - 1)).length 0 () (by omega) trivial
  · rw [List.drop_zero] at key; exact key
  · intro j u hj _
    rw [List.length_range] at hj
    have hj1 : j < l.length := by omega
    have hj2 : j + 1 < l.length := by omega
    have hz3 : z = 3 := hz.resolve_right fun h => by rw [h] at hj1; simp at hj1
    have n1 := ha _ (List.getElem_mem hj1)
    have n2 := ha _ (List.getElem_mem hj2)
    have k1 := cN_ok n1
    have k2 := cN_ok n2
    have ht := rs_in cN gPut nl cl z l ((j + 1 : Nat) : Int)
    have w : IntKind.i64.wrap (((j + 1 : Nat) : Int) - 1) = (j : Int) := by rw [wrap_i64]; omega
    rw [nthP_at hj1 hl, nthD_at hj2, kdV_eq k1, kdV_eq k2, w, wadd1 (by omega)] at ht
    have hb : ∀ x : IV, (decide ((1 : Nat) = 1 ∨ (gPut x).length = 0) && isBytes (gPut x)) = true := fun x => by
      unfold gPut
      rw [isBytes_u8s, decide_eq_true (.inl rfl)]; rfl
    replace ht := fun r q => ht.trans (bif_step (r := r) (decide_eq_true (by omega)) (bif_step (decide_eq_true ⟨hz3, by omega, by omega⟩) (bif_step (kdT k2) (bif_step n2 (bif_step (hb _) (bif_step (decide_eq_true ⟨hz3, by omega, by omega⟩) (bif_step (kdT k1) (bif_step n1 (bif_step (hb _) q)))))))))
    have hle : Op.bytesLess (toBytes (gPut l[j + 1])) (toBytes (gPut l[j])) = !(leB (ndOf l[j]) (ndOf l[j + 1])) := by
      unfold gPut leB
      rw [toBytes_u8s, toBytes_u8s, cmp_less, Bool.not_not]
    rw [List.getElem_range, getD_map hj1, getD_map hj2]
    cases h : leB (ndOf l[j]) (ndOf l[j + 1])
    · exact .inr ⟨_, _, if_pos rfl, by simp, ht _ (bif_step (by rw [hle, h]; rfl) rfl)⟩
    · exact .inl ⟨(), if_neg (by simp), ht _ (bif_stepF (by rw [hle, h]; rfl) rfl), trivial⟩
  · intro _ _
    rw [List.length_range]
    have ht := rs_in cN gPut nl cl z l ((l.length - 1 + 1 : Nat) : Int)
    exact ht.trans (bif_stepF (decide_eq_false (by omega)) rfl)
theorem rises_known : Known Try.prog hint 50 (ordP cKs gRis) := by
  refine known_alt fits fun us T v T1 h => ?_
  unfold ordP at h
  split at h
  case h_2 => cases h
  rename_i nl cl z l
  simp only [List.mem_cons, List.not_mem_nil, or_false, Prod.mk.injEq, Bool.true_eq] at h
  obtain ⟨h1, rfl, rfl⟩ := h
  obtain ⟨hz, hl, ha⟩ := cKs_open h1
  refine ⟨[[.fsl nl cl z l]], by simp, Splits.self _, fun ys hy => ?_⟩
  rw [List.mem_singleton] at hy
  subst hy
  have q := rs_runs hl ha (nl := nl) (cl := cl) hz
  rw [foldE_find (fun k => !(leB ((l.map ndOf).getD k nilN) ((l.map ndOf).getD (k + 1) nilN))) (fun j => (Ex.ret, Sx 50 [.fsl nl cl z l, .bool false, .int .i64 ((j + 1 : Nat) : Int)] []))] at q
  unfold gRis adjB
  rw [List.length_map, all_idx]
  cases hf : (List.range (l.length - 1)).findIdx? (fun k => !(leB ((l.map ndOf).getD k nilN) ((l.map ndOf).getD (k + 1) nilN))) with
  | none =>
    rw [hf] at q
    have hls : LoopsOK Try.prog hint (acall Try.prog hint (ovrOf (tab [(34, boP cN gPut)]))) (ltab [(50, 26, LF 50 0 (oneF [.fsl nl cl z l, .bool false, .int .i64 1] [] (.exit 0) [.fsl nl cl z l, .bool false, .int .i64 ((l.length - 1 + 1 : Nat) : Int)] []))]) := by
      refine ltab_cons (by kernel_rfl) (loopF_ok fun vs bx e vs' bx' hm => ?_) ltab_nil
      obtain ⟨rfl, rfl, rfl, rfl, rfl⟩ := oneF_mem hm
      exact q
    exact ⟨noGd_of rfl, _, _, tab_cons bytes_known tab_nil, hls, 30, _, Wk.refl _, (rs_yes cN gPut nl cl z l ((l.length - 1 + 1 : Nat) : Int)).trans (bif_step sameS_t rfl)⟩
  | some j =>
    rw [hf] at q
    have hls : LoopsOK Try.prog hint (acall Try.prog hint (ovrOf (tab [(34, boP cN gPut)]))) (ltab [(50, 26, LF 50 0 (oneF [.fsl nl cl z l, .bool false, .int .i64 1] [] .ret [.fsl nl cl z l, .bool false, .int .i64 ((j + 0 + 1 : Nat) : Int)] []))]) := by
      refine ltab_cons (by kernel_rfl) (loopF_ok fun vs bx e vs' bx' hm => ?_) ltab_nil
      obtain ⟨rfl, rfl, rfl, rfl, rfl⟩ := oneF_mem hm
      exact q
    exact ⟨noGd_of rfl, _, _, tab_cons bytes_known tab_nil, hls, 30, _, Wk.refl _, (rs_no cN gPut nl cl z l ((j + 0 + 1 : Nat) : Int)).trans (bif_step sameS_t rfl)⟩
end
end Go.Proofs.Ytolpgbgmldpneaa
