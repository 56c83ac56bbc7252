/- ChooseRegions: what is proved of the given program. It bears no condition. -/
import Derived.Test.YtfcedalbamafiaaCiN
namespace Go.Proofs.Ytfcedalbamafiaa
open Go Go.Im
set_option linter.unusedVariables false
set_option linter.unusedSimpArgs false
noncomputable section

theorem it_call (xs ys : List IV) : callK Try.prog hint (tab []) (ltab [(19, 58, LF 19 0 (oneF (itV xs ys 0) [] (.exit 0) (itV xs ys (xs.length : Int)) []))]) 30 19 [.fsl none false 1 xs, .fsl none false 1 ys] [] (fun v T => some (v, T)) =
    bif (xs.length : Int) != (ys.length : Int) then some (.bool false, []) else bif sameS (itV xs ys 0) [] then some (.bool true, []) else none := by kernel_rfl
theorem it_runs {ks : List Int} (hs : ks.length ≤ 1000000) :
    EachOK Try.prog hint NCall 0 (hint.kp 19) (loopAt Try.prog 19 58) (Sx 19 (itV (ks.map (IV.int .i64)) (ks.map (IV.int .i64)) ((0 : Nat) : Int)) []) (.exit 0)
      (fun _ : Unit => Sx 19 (itV (ks.map (IV.int .i64)) (ks.map (IV.int .i64)) (ks.length : Int)) []) (foldE (fun (_ : Nat) (_ : Unit) (_ : Int) => (Sum.inl () : Unit ⊕ (Ex × St))) 0 () ks) := by
  refine runs_each (X := Unit) (l := ks) (n := 30) (ls := fun _ _ => none) loops_none inner0 (fun i _ => Sx 19 (itV (ks.map (IV.int .i64)) (ks.map (IV.int .i64)) (i : Int)) []) _
    (fun _ _ => True) (by simp) ?_ ?_ ks.length 0 () (by omega) trivial
  · intro i _ hi' _
    have ht := it_in (ks.map (IV.int .i64)) (ks.map (IV.int .i64)) i
    rw [nth_int hi', List.length_map, wadd1 (by omega)] at ht
    refine .inl ⟨(), rfl, ?_, trivial⟩
    have hd : (1 : Nat) = 1 ∧ (0 : Int) ≤ (i : Int) ∧ (i : Int) < (ks.length : Int) := ⟨rfl, by omega, by omega⟩
    exact ht.trans (bif_step (decide_eq_true (by omega)) (bif_step (decide_eq_true hd) (bif_step rfl (bif_step (decide_eq_true hd) (bif_step rfl (bif_stepF (by simp) rfl))))))
  · intro _ _
    have ht := it_in (ks.map (IV.int .i64)) (ks.map (IV.int .i64)) ks.length
    rw [List.length_map] at ht
    exact ht.trans (bif_stepF (decide_eq_false (by omega)) rfl)
def itC (l m : List IV) : Bool := @decide (l = m ∧ ∃ ks : List Int, l = ks.map (IV.int .i64) ∧ ks.length ≤ 1000000) (Classical.propDecidable _)
theorem ints_known : Known Try.prog hint 19 (itP itC fun _ _ => true) := by
  refine known_alt fits fun xs T v T1 h => ?_
  unfold itP at h
  split at h
  case h_2 => cases h
  rename_i l m
  simp only [List.mem_cons, List.not_mem_nil, or_false, Prod.mk.injEq, Bool.true_eq, itC, decide_eq_true_eq] at h
  obtain ⟨⟨rfl, ks, rfl, hk⟩, rfl, rfl⟩ := h
  refine ⟨[[.fsl none false 1 (ks.map (IV.int .i64)), .fsl none false 1 (ks.map (IV.int .i64))]], by simp, Splits.self _, fun ys hy => ?_⟩
  rw [List.mem_singleton] at hy
  subst hy
  have q := it_runs hk
  rw [foldE_inl (g := fun (_ : Unit) (_ : Int) => ()) (fun _ _ _ => rfl)] at q
  have hls : LoopsOK Try.prog hint NCall (ltab [(19, 58, LF 19 0 (oneF (itV (ks.map (IV.int .i64)) (ks.map (IV.int .i64)) 0) [] (.exit 0) (itV (ks.map (IV.int .i64)) (ks.map (IV.int .i64)) ((ks.map (IV.int .i64)).length : Int)) []))]) := by
    refine ltab_cons (by kernel_rfl) (loopF_ok fun vs bx e vs' bx' hm => ?_) ltab_nil
    obtain ⟨rfl, rfl, rfl, rfl, rfl⟩ := oneF_mem hm
    rw [List.length_map]
    exact q
  exact ⟨noGd_of rfl, tab [], _, tab_nil, hls, 30, _, Wk.refl _, (it_call _ _).trans (bif_stepF (by simp) (bif_step sameS_t rfl))⟩
abbrev tabR' : FuncId → Option SpecF := tabR spOK spOK' (fun l => rgLo (sps l)) (fun l => rgHi (sps l)) (fun l => rgCode (sps l)) (fun l => rgLo (sps l)) (fun l => rgHi (sps l)) (fun l => rgCode (sps l)) svG svG (fun l x => ((cov (sps l) x : Nat) : Int)) (fun l x => ((cov (sps l) x : Nat) : Int)) itC fun _ _ => true
theorem tabR_ok : ∀ f F, tabR' f = some F → Known Try.prog hint f F := tab_cons alive_known' (tab_cons region_known (tab_cons cover_known (tab_cons rregion_known (tab_cons surv_known (tab_cons rsurv_known (tab_cons rcover_known (tab_cons ints_known tab_nil)))))))
theorem chooseRegions_run (xs : List IV) (hl : xs.length = Try.f6.params.size) (h : ∀ (i : Nat) t, Try.f6.params[i]? = some t → ∃ x, xs[i]? = some x ∧ ArgT Try.prog t x) :
    ∃ k, acall Try.prog hint (ovrOf tabR') k 6 xs [] = some (.bool true, []) := by
  rw [Try.params6] at hl h
  obtain ⟨x0, g0, a0⟩ := h 0 22 rfl
  obtain ⟨x1, g1, a1⟩ := h 1 2 rfl
  match xs, hl with
  | [y0, y1], _ =>
    simp only [List.getElem?_cons_zero, List.getElem?_cons_succ, Option.some.injEq] at g0 g1
    subst g0 g1
    obtain ⟨nl, cl, l, rfl, ho⟩ := arg22 a0
    obtain ⟨x, rfl, _⟩ := arg_int Try.underlying2 a1
    refine law_run (n := 30) loops_none ((rg_law nl cl l x ..).trans ?_)
    by_cases c1 : (l.length : Int) > 200
    · exact bif_step (decide_eq_true c1) rfl
    have hok : spOK' 3 l = true := by unfold spOK'; rw [ho, decide_eq_true (by omega)]; rfl
    have hll := sps_len l
    have hpl : (plS (sps l)).length ≤ l.length := by
      have := plc_len (rgLo (sps l)) (rgHi (sps l)) (sps l) 0
      unfold plS
      cases rgCode (sps l) != 0
      · rw [cond_false]; omega
      · simp
    have hi' : itC (svG l) (svG l) = true := @decide_eq_true _ (Classical.propDecidable _) ⟨rfl, plS (sps l), rfl, by omega⟩
    refine bif_stepF (decide_eq_false c1) (bif_step ho (bif_step ho (bif_step hok (bif_step hok (bif_step ho (bif_step ho (bif_step (by simp) (bif_step hi' ?_))))))))
    simp
end
end Go.Proofs.Ytfcedalbamafiaa
