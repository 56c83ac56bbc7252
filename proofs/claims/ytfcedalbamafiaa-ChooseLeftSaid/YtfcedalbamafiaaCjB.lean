/- ChooseClusters and ChooseLeft: what is proved of the given program. It bears no condition. -/
import Derived.Test.YtfcedalbamafiaaCjA
namespace Go.Proofs.Ytfcedalbamafiaa
open Go Go.Im
set_option linter.unusedVariables false
set_option linter.unusedSimpArgs false
noncomputable section

theorem cCl_of {zs ws : List Int} (hz : zs.length ≤ 4611686018427387904) (hw : ws.length ≤ 4611686018427387904) : cCl (I64 zs) (I64 ws) = true := by
  unfold cCl cF
  rw [okRow_map hz, okRow_map hw]; rfl
theorem cluA_len (xs ys : List IV) (least : Int) : (cluA xs ys least).length ≤ 64 := by
  unfold cluA
  cases h : okCl xs ys least
  · simp
  · have hf : fitB xs ys = true := by
      cases hf : fitB xs ys with
      | true => rfl
      | false => unfold okCl at h; rw [hf] at h; cases h
    have h1 := (fitB_p hf).few
    have h2 := (clu_sub (toInts xs) (toInts ys) least (toInts xs).length (rng (toInts xs).length)).length_le
    rw [rng_len] at h2
    rw [cond_true]
    omega
theorem itC_same (ks : List Int) (h : ks.length ≤ 1000000) : itC (I64 ks) (I64 ks) = true := @decide_eq_true _ (Classical.propDecidable _) ⟨rfl, ks, rfl, h⟩
abbrev tabL' : FuncId → Option SpecF := tabL cCl gCl gCl eCl eCl combV combV combE combE itC fun _ _ => true
theorem tabL_ok : ∀ f F, tabL' f = some F → Known Try.prog hint f F := tab_cons alive_known' (tab_cons co_known (tab_cons ints_known (tab_cons cluster_known (tab_cons rcluster_known (tab_cons rco_known tab_nil)))))
theorem chooseClusters_run (xs : List IV) (hl : xs.length = Try.f8.params.size) (h : ∀ (i : Nat) t, Try.f8.params[i]? = some t → ∃ x, xs[i]? = some x ∧ ArgT Try.prog t x) :
    ∃ k, acall Try.prog hint (ovrOf tabL') k 8 xs [] = some (.bool true, []) := by
  obtain ⟨x0, x1, x2, rfl, h0, h1, h2⟩ := args3 Try.params8 hl h
  obtain ⟨nl, cl, zs, rfl, hz, _⟩ := arg32 h0
  obtain ⟨nl', cl', ws, rfl, hw, _⟩ := arg32 h1
  obtain ⟨b, rfl, _⟩ := arg_int Try.underlying3 h2
  refine law_run (n := 30) loops_none ((cl_law (some nl) cl (I64 zs) (some nl') cl' (I64 ws) b ..).trans ?_)
  have hc := cCl_of hz hw
  cases (bif bif decide (((I64 zs).length : Int) > (200 : Int)) then true else decide (((I64 ws).length : Int) > (200 : Int)) then true else bif decide (((I64 zs).length : Int) > (24 : Int)) then decide (((I64 zs).length : Int) ≤ (64 : Int)) else false)
  · refine bif_stepF rfl (bif_step hc (bif_step hc (bif_step hc (bif_step hc (bif_step (itC_same _ (Nat.le_trans (cluA_len _ _ _) (by omega))) ?_)))))
    simp
  · exact bif_step rfl rfl

/-! ### What is left -/
abbrev tabN' : FuncId → Option SpecF := tabN cCl gCl eCl itC fun _ _ => true
theorem tabN_ok : ∀ f F, tabN' f = some F → Known Try.prog hint f F := tab_cons alive_known' (tab_cons ints_known (tab_cons cluster_known tab_nil))
abbrev NN : Nat → CallF := acall Try.prog hint (ovrOf tabN')
theorem lf_checks {zs A : List Int} (hA : A.Sublist (rng zs.length)) (hn : zs.length ≤ 64) {nl nl' : Option Bool} {cl cl' : Bool} {ys : List IV} {least : Int} :
    EachOK Try.prog hint NN 0 (hint.kp 9) (loopAt Try.prog 9 250) (Sx 9 (lfV nl cl (I64 zs) nl' cl' ys least (I64 A) ((0 : Nat) : Int)) []) (.exit 0)
      (fun _ : Unit => Sx 9 (lfV nl cl (I64 zs) nl' cl' ys least (I64 A) (A.length : Int)) []) (foldE (fun (_ : Nat) (_ : Unit) (_ : Int) => (Sum.inl () : Unit ⊕ (Ex × St))) 0 () A) := by
  have hlen := hA.length_le
  rw [rng_len] at hlen
  refine runs_each (X := Unit) (l := A) (n := 30) (ls := fun _ _ => none) loops_none inner0 (fun i _ => Sx 9 (lfV nl cl (I64 zs) nl' cl' ys least (I64 A) (i : Int)) []) _
    (fun _ _ => True) (by simp) ?_ ?_ A.length 0 () (by omega) trivial
  · intro i _ hi _
    refine .inl ⟨(), rfl, ?_, trivial⟩
    have ht := lf_chk tabN' nl cl (I64 zs) nl' cl' ys (I64 A) least i
    have hm := rng_mem (hA.subset (List.getElem_mem hi))
    rw [nthN hi, io2, I64_len, I64_len, wadd1 (by omega)] at ht
    have c1 : (1 : Nat) = 1 ∧ (0 : Int) ≤ (i : Int) ∧ (i : Int) < (A.length : Int) := ⟨rfl, by omega, by omega⟩
    have d1 : decide (A[i] < 0) = false := decide_eq_false (by omega)
    have d2 : decide (A[i] ≥ (zs.length : Int)) = false := decide_eq_false (by omega)
    rw [d1, d2] at ht
    replace ht := fun r k => ht.trans (bif_step (r := r) (decide_eq_true (by omega)) (bif_step (decide_eq_true c1) (bif_step rfl (bif_step rfl (bif_step (decide_eq_true c1) (bif_step rfl k))))))
    by_cases h0 : i = 0
    · subst h0
      exact ht _ (bif_stepF rfl (bif_stepF rfl (bif_stepF rfl (bif_stepF rfl (bif_stepF rfl (bif_stepF rfl (bif_stepF rfl rfl)))))))
    · have hi1 : i - 1 < A.length := by omega
      have hw : IntKind.i64.wrap ((i : Int) - 1) = ((i - 1 : Nat) : Int) := by rw [i64s (by omega)]; omega
      have hp : A[i - 1] < A[i] := (List.pairwise_iff_getElem.1 ((rng_lt zs.length).sublist hA)) (i - 1) i hi1 hi (by omega)
      have d3 : decide ((i : Int) > 0) = true := decide_eq_true (by omega)
      rw [hw, nthN hi1, io2, d3] at ht
      refine ht _ (bif_step rfl (bif_step (decide_eq_true c1) (bif_step rfl (bif_step (decide_eq_true ⟨rfl, by omega, by omega⟩) (bif_step rfl (bif_stepF ?_ rfl))))))
      exact decide_eq_false (by omega)
  · intro _ _
    have ht := lf_chk tabN' nl cl (I64 zs) nl' cl' ys (I64 A) least A.length
    rw [I64_len] at ht
    exact ht.trans (bif_stepF (decide_eq_false (by omega)) rfl)
theorem lf_negs {zs : List Int} (hz : Sm zs) (hn : zs.length ≤ 64) {l : List IV} {nl nl' : Option Bool} {cl cl' : Bool} {ys : List IV} {least want : Int} :
    EachOK Try.prog hint NN 0 (hint.kp 9) (loopAt Try.prog 9 4090) (Sx 9 (lfN nl cl (I64 zs) nl' cl' ys least l want ((0 : Nat) : Int)) [.row 0 false 1 (I64 ((zs.take 0).map (- ·)))]) (.exit 2)
      (fun _ : Unit => Sx 9 (lfN nl cl (I64 zs) nl' cl' ys least l want (zs.length : Int)) [.row 0 false 1 (I64 ((zs.take zs.length).map (- ·)))]) (foldE (fun (_ : Nat) (_ : Unit) (_ : Int) => (Sum.inl () : Unit ⊕ (Ex × St))) 0 () zs) := by
  refine runs_each (X := Unit) (l := zs) (n := 30) (ls := fun _ _ => none) loops_none inner0 (fun i _ => Sx 9 (lfN nl cl (I64 zs) nl' cl' ys least l want (i : Int)) [.row 0 false 1 (I64 ((zs.take i).map (- ·)))]) _
    (fun _ _ => True) (by simp) ?_ ?_ zs.length 0 () (by omega) trivial
  · intro i _ hi _
    refine .inl ⟨(), rfl, ?_, trivial⟩
    have ht := lf_neg tabN' nl cl (I64 zs) nl' cl' ys l (I64 ((zs.take i).map (- ·))) least want i
    have hb := hz _ (List.getElem_mem hi)
    rw [nthN hi, io2, I64_len, I64_len, wadd1 (by omega), i64s (x := 0 - zs[i]) (by omega), Int.zero_sub] at ht
    refine ht.trans (bif_step (decide_eq_true (by omega)) (bif_step (decide_eq_true ⟨rfl, by omega, by omega⟩) (bif_step rfl (bif_step (decide_eq_true ?_) ?_))))
    · rw [roomB_nat, maxLen_val]
      simp only [List.length_cons, List.length_nil, List.length_map, List.length_take]
      omega
    · have e : I64 ((zs.take (i + 1)).map (- ·)) = I64 ((zs.take i).map (- ·)) ++ [IV.int .i64 (-zs[i])] := by
        unfold I64
        rw [List.take_succ_eq_append_getElem hi, List.map_append, List.map_append]; rfl
      rw [e]
  · intro _ _
    have ht := lf_neg tabN' nl cl (I64 zs) nl' cl' ys l (I64 ((zs.take zs.length).map (- ·))) least want zs.length
    rw [I64_len] at ht
    exact ht.trans (bif_stepF (decide_eq_false (by omega)) rfl)
theorem okCl_t {xs ys : List IV} {least : Int} (h : okCl xs ys least = true) : fitB xs ys = true ∧ 1 ≤ least := by
  unfold okCl at h
  cases hf : fitB xs ys with
  | false => rw [hf] at h; cases h
  | true =>
    rw [hf] at h
    cases hd : decide (least < (1 : Int)) with
    | false => exact ⟨rfl, by have := of_decide_eq_false hd; omega⟩
    | true => rw [hd] at h; cases h
theorem fit_neg {zs ws : List Int} (h : fitB (I64 zs) (I64 ws) = true) : fitB (I64 (zs.map (- ·))) (I64 ws) = true := by
  rw [fitB_iff, toInts_I64, toInts_I64, I64_len, I64_len] at h ⊢
  obtain ⟨a, b, c, d⟩ := h
  refine ⟨by rw [List.length_map]; exact a, by rw [List.length_map]; exact b, fun x hx => ?_, d⟩
  obtain ⟨y, hy, rfl⟩ := List.mem_map.1 hx
  have := c y hy
  omega
theorem chooseLeft_run (xs : List IV) (hl : xs.length = Try.f9.params.size) (h : ∀ (i : Nat) t, Try.f9.params[i]? = some t → ∃ x, xs[i]? = some x ∧ ArgT Try.prog t x) :
    ∃ k, acall Try.prog hint (ovrOf tabN') k 9 xs [] = some (.bool true, []) := by
  obtain ⟨x0, x1, x2, rfl, h0, h1, h2⟩ := args3 Try.params9 hl h
  obtain ⟨nl, cl, zs, rfl, hz, _⟩ := arg32 h0
  obtain ⟨nl', cl', ws, rfl, hw, _⟩ := arg32 h1
  obtain ⟨b, rfl, _⟩ := arg_int Try.underlying3 h2
  have hc := cCl_of hz hw
  by_cases c1 : ((I64 zs).length : Int) > 24
  · exact law_run (ls := ltab [(9, 250, noL)]) (n := 30) (ltab_cons (by kernel_rfl) (fun p s e s' h => by cases h) ltab_nil) ((lf_none (some nl) cl (I64 zs) (some nl') cl' (I64 ws) b ..).trans (bif_step (decide_eq_true c1) rfl))
  cases hok : okCl (I64 zs) (I64 ws) b
  · have hE : eCl (I64 zs) (I64 ws) b = 1 := by unfold eCl; rw [hok]; rfl
    have hG : gCl (I64 zs) (I64 ws) b = [] := by unfold gCl cluA; rw [hok]; rfl
    refine law_run (ls := ltab [(9, 250, noL)]) (n := 30) (ltab_cons (by kernel_rfl) (fun p s e s' h => by cases h) ltab_nil) ((lf_none (some nl) cl (I64 zs) (some nl') cl' (I64 ws) b ..).trans (bif_stepF (decide_eq_false c1) (bif_step hc (bif_step (by rw [hE]; rfl) ?_))))
    rw [hG]; rfl
  · obtain ⟨hf, hb⟩ := okCl_t hok
    obtain ⟨hsm, hnr, hlen, hfew⟩ := fitP_sm (fitB_p hf)
    rw [toInts_I64] at hsm hlen hfew
    rw [toInts_I64] at hnr hlen
    have hE : eCl (I64 zs) (I64 ws) b = 0 := by unfold eCl; rw [hok]; rfl
    have hG : gCl (I64 zs) (I64 ws) b = I64 (clu zs ws b zs.length (rng zs.length)) := by unfold gCl cluA; rw [hok, toInts_I64, toInts_I64]; rfl
    have hf' := fit_neg hf
    have hok' : okCl (I64 (zs.map (- ·))) (I64 ws) b = true := by
      unfold okCl
      rw [hf', decide_eq_false (show ¬ b < 1 by omega)]; rfl
    have hE' : eCl (I64 (zs.map (- ·))) (I64 ws) b = 0 := by unfold eCl; rw [hok']; rfl
    have hG' : gCl (I64 (zs.map (- ·))) (I64 ws) b = I64 (clu zs ws b zs.length (rng zs.length)) := by
      unfold gCl cluA
      rw [hok', toInts_I64, toInts_I64, clu_neg, List.length_map]; rfl
    have hc' : cCl (I64 (zs.map (- ·))) (I64 ws) = true := cCl_of (by rw [List.length_map]; exact hz) hw
    have hsub := clu_sub zs ws b zs.length (rng zs.length)
    have hmin : (if (zs.length : Int) < b then (zs.length : Int) else b) ≤ ((clu zs ws b zs.length (rng zs.length)).length : Int) := by
      split
      · rename_i hlt
        rw [clu_all (by rw [rng_len]; omega), rng_len]
        exact Int.le_refl _
      · exact clu_len (fun k => (hnr.nth k).2) hb zs.length (rng zs.length) (by rw [rng_len]; omega)
    have q1 := lf_checks hsub hfew (nl := some nl) (cl := cl) (nl' := some nl') (cl' := cl') (ys := I64 ws) (least := b)
    have q2 := lf_negs hsm hfew (nl := some nl) (cl := cl) (nl' := some nl') (cl' := cl') (ys := I64 ws) (least := b) (l := I64 (clu zs ws b zs.length (rng zs.length))) (want := if (zs.length : Int) < b then (zs.length : Int) else b)
    rw [foldE_inl (g := fun (_ : Unit) (_ : Int) => ()) (fun _ _ _ => rfl)] at q1 q2
    rw [List.take_length] at q2
    have hci := itC_same (clu zs ws b zs.length (rng zs.length)) (by have := hsub.length_le; rw [rng_len] at this; omega)
    have ht := lf_call (some nl) cl (I64 zs) (some nl') cl' (I64 ws) (I64 (zs.map (- ·))) b (if (zs.length : Int) < b then (zs.length : Int) else b) cCl gCl eCl itC fun _ _ => true
    generalize clu zs ws b zs.length (rng zs.length) = A at *
    unfold lfT at ht
    rw [hG, hG', hE, hE', hc, hc', hci, I64_len, I64_len, decide_eq_false (by rw [I64_len] at c1; exact c1), decide_eq_true (show (A.length : Int) ≥ _ from hmin)] at ht
    have hls : LoopsOK Try.prog hint NN (lfLs (some nl) cl (I64 zs) (some nl') cl' (I64 ws) (I64 A) (I64 (zs.map (- ·))) b (if (zs.length : Int) < b then (zs.length : Int) else b)) := by
      refine ltab_cons (by kernel_rfl) (loopF_ok fun vs bx e vs' bx' hm => ?_) (ltab_cons (by kernel_rfl) (loopF_ok fun vs bx e vs' bx' hm => ?_) ltab_nil)
      · obtain ⟨rfl, rfl, rfl, rfl, rfl⟩ := oneF_mem hm
        rw [I64_len]
        exact q1
      · obtain ⟨rfl, rfl, rfl, rfl, rfl⟩ := oneF_mem hm
        have e : ((I64 zs).length : Int) = (zs.length : Int) := by rw [I64_len]
        rw [e]
        exact q2
    refine law_run hls (n := 30) (ht.trans (bif_stepF rfl (bif_step rfl (bif_stepF rfl (bif_step sameS_t ?_)))))
    by_cases hlt : (zs.length : Int) < b
    · rw [if_pos hlt]
      exact bif_step (decide_eq_true hlt) (bif_step sameS_t rfl)
    · rw [if_neg hlt]
      exact bif_stepF (decide_eq_false hlt) (bif_step sameS_t rfl)
end
end Go.Proofs.Ytfcedalbamafiaa
