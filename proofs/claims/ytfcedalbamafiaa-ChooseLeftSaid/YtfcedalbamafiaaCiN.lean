/- ChooseRegions: what is proved of the given program. It bears no condition. -/
import Derived.Test.YtfcedalbamafiaaCiM
namespace Go.Proofs.Ytfcedalbamafiaa
open Go Go.Im
set_option linter.unusedVariables false
set_option linter.unusedSimpArgs false
noncomputable section

theorem rregion_known : Known Try.prog hint 15 (rgP spOK (fun l => rgLo (sps l)) (fun l => rgHi (sps l)) (fun l => rgCode (sps l))) := by
  refine known_alt fits fun xs T v T1 h => ?_
  unfold rgP at h
  split at h
  case h_2 => cases h
  rename_i nl cl z l
  simp only [List.mem_cons, List.not_mem_nil, or_false, Prod.mk.injEq, Bool.true_eq] at h
  obtain ⟨h1, rfl, rfl⟩ := h
  obtain ⟨rfl, hl, he⟩ := spOK_iff h1
  refine ⟨[[.fsl nl cl 3 l]], by simp, Splits.self _, fun ys hy => ?_⟩
  rw [List.mem_singleton] at hy
  subst hy
  have hll := sps_len l
  have bad : rgBad (sps l) = true → some (IV.tup [.int .i64 0, .int .i64 0, .int .i64 1], ([] : List Blk)) = some (.tup [.int .i64 (rgLo (sps l)), .int .i64 (rgHi (sps l)), .int .i64 (rgCode (sps l))], []) := by
    intro h
    unfold rgLo rgHi rgCode
    rw [h]; rfl
  by_cases c1 : l.length > 64
  · refine ⟨noGd_of rfl, reTab, _, reTab_ok, ltab_cons (q := 58) (F := noL) (f := 15) (by kernel_rfl) (fun p s e s' h => by cases h) ltab_nil, 30, _, Wk.refl _, (re_big nl cl l spOK fun l x => ((cov (sps l) x : Nat) : Int)).trans (bif_step (decide_eq_true (by omega)) (bad ?_))⟩
    unfold rgBad; rw [decide_eq_true (by omega)]; rfl
  have q1 := re_runs (nl := nl) (cl := cl) (ss := sps l) (by omega)
  rw [ix_fold, ← he, hll] at q1
  cases c2 : (sps l).any badSp
  case true =>
    rw [c2, if_pos rfl] at q1
    have hls : LoopsOK Try.prog hint (acall Try.prog hint (ovrOf reTab)) (ltab [(15, 58, LF 15 0 (oneF (reV nl cl l 0 0) [] .ret (reV nl cl l 1 ((ixEnd 0 (sps l) : Nat) : Int)) []))]) := by
      refine ltab_cons (by kernel_rfl) (loopF_ok fun vs bx e vs' bx' hm => ?_) ltab_nil
      obtain ⟨rfl, rfl, rfl, rfl, rfl⟩ := oneF_mem hm
      exact q1
    refine ⟨noGd_of rfl, reTab, _, reTab_ok, hls, 30, _, Wk.refl _, (re_bad nl cl l ((ixEnd 0 (sps l) : Nat) : Int) spOK fun l x => ((cov (sps l) x : Nat) : Int)).trans (bif_stepF (decide_eq_false (by omega)) (bif_step sameS_t (bad ?_)))⟩
    unfold rgBad; rw [c2, Bool.or_true]
  rw [c2, if_neg (by simp)] at q1
  have hb : rgBad (sps l) = false := by unfold rgBad; rw [c2, decide_eq_false (by omega)]; rfl
  have q2 := rf_runs (nl := nl) (cl := cl) (ss := sps l) (by omega) (by rw [← he]; exact h1) (by rw [← he])
  rw [foldE_inl (g := trStep (sps l)) (fun _ _ _ => rfl), ← he] at q2
  have hls : LoopsOK Try.prog hint (acall Try.prog hint (ovrOf reTab)) (ltab [(15, 58, LF 15 0 (oneF (reV nl cl l 0 0) [] (.exit 0) (reV nl cl l 0 (l.length : Int)) [])), (15, 250, LF 15 0 (oneF (rfV nl cl l 0 0 false 0) [] (.exit 2) (rfV nl cl l (tried (sps l)).lo (tried (sps l)).hi (tried (sps l)).fd ((pts (sps l)).length : Int)) []))]) := by
    refine ltab_cons (by kernel_rfl) (loopF_ok fun vs bx e vs' bx' hm => ?_) (ltab_cons (by kernel_rfl) (loopF_ok fun vs bx e vs' bx' hm => ?_) ltab_nil)
    · obtain ⟨rfl, rfl, rfl, rfl, rfl⟩ := oneF_mem hm
      exact q1
    · obtain ⟨rfl, rfl, rfl, rfl, rfl⟩ := oneF_mem hm
      exact q2
  refine ⟨noGd_of rfl, reTab, _, reTab_ok, hls, 30, _, Wk.refl _, (re_call nl cl l (tried (sps l)).lo (tried (sps l)).hi (tried (sps l)).fd ((pts (sps l)).length : Int) spOK fun l x => ((cov (sps l) x : Nat) : Int)).trans (bif_stepF (decide_eq_false (by omega)) (bif_step sameS_t (bif_step sameS_t ?_)))⟩
  obtain ⟨t1, t2⟩ := tried_sweep c2
  unfold rgR rgLo rgHi rgCode
  rw [hb, t1]
  cases hf : (sweep (sps l)).fd
  · rfl
  · obtain ⟨t3, t4⟩ := t2 hf
    rw [t3, t4]; rfl

/-! ### The document's Survive -/
abbrev rsTab : FuncId → Option SpecF := tab [(15, rgP spOK (fun l => rgLo (sps l)) (fun l => rgHi (sps l)) (fun l => rgCode (sps l)))]
theorem rsTab_ok : ∀ f F, rsTab f = some F → Known Try.prog hint f F := tab_cons rregion_known tab_nil
theorem rs_runs {nl : Option Bool} {cl : Bool} {ss : List Sp} {lo hi e : Int} (hs : ss.length ≤ 1000000) :
    EachOK Try.prog hint (acall Try.prog hint (ovrOf rsTab)) 0 (hint.kp 17) (loopAt Try.prog 17 250) (Sx 17 (rsV nl cl (ss.map spI) lo hi e ((0 : Nat) : Int)) [.row 0 false 1 (([] : List Int).map (IV.int .i64))]) (.exit 0)
      (fun out : List Int => Sx 17 (rsV nl cl (ss.map spI) lo hi e (ss.length : Int)) [.row 0 false 1 (out.map (IV.int .i64))]) (foldE (svStep lo hi) 0 [] ss) := by
  refine runs_each (X := List Int) (l := ss) (n := 30) (ls := fun _ _ => none) loops_none inner0 (fun i out => Sx 17 (rsV nl cl (ss.map spI) lo hi e (i : Int)) [.row 0 false 1 (out.map (IV.int .i64))]) _
    (fun i out => out.length ≤ i) (by simp) ?_ ?_ ss.length 0 [] (by omega) (by simp)
  · intro i out hi' ho
    have ht := rs_in rsTab nl cl (ss.map spI) (out.map (IV.int .i64)) lo hi e i
    rw [nth_sp hi', mid_at', List.length_map, wadd1 (by omega)] at ht
    simp only [svStep]
    generalize ss[i] = s at *
    have e0 : Im.intOf (IV.int .i64 s.mid) = s.mid := rfl
    rw [e0] at ht
    have hd : (3 : Nat) = 3 ∧ (0 : Int) ≤ (i : Int) ∧ (i : Int) < (ss.length : Int) := ⟨rfl, by omega, by omega⟩
    replace ht := fun r h => ht.trans (bif_step (r := r) (decide_eq_true (by omega)) (bif_step (decide_eq_true hd) (bif_step rfl h)))
    unfold inR
    by_cases h1 : lo ≤ s.mid
    · rw [decide_eq_true (show s.mid ≥ lo from h1), cond_true]
      replace ht := fun r h => ht _ (bif_step (r := r) (by rw [decide_eq_true h1]; rfl) (bif_step (decide_eq_true hd) (bif_step rfl h)))
      by_cases h2 : s.mid ≤ hi
      · rw [decide_eq_true h2]
        refine .inl ⟨out ++ [(i : Int)], by rw [if_pos rfl], ht _ (bif_step (by rw [cond_true]; exact decide_eq_true h2) (bif_step (decide_eq_true ?_) ?_)), by simp; omega⟩
        · rw [List.length_map, roomB_nat, maxLen_val]
          simp only [List.length_cons, List.length_nil]
          omega
        · rw [List.map_append]; rfl
      · rw [decide_eq_false h2]
        exact .inl ⟨out, by rw [if_neg (by simp)], ht _ (bif_stepF (by rw [cond_true]; exact decide_eq_false h2) rfl), by omega⟩
    · rw [decide_eq_false (show ¬ s.mid ≥ lo from h1), cond_false]
      exact .inl ⟨out, by rw [if_neg (by simp)], ht _ (bif_stepF (by rw [decide_eq_false h1]; rfl) rfl), by omega⟩
  · intro out ho
    have ht := rs_in rsTab nl cl (ss.map spI) (out.map (IV.int .i64)) lo hi e ss.length
    rw [List.length_map] at ht
    exact ht.trans (bif_stepF (decide_eq_false (by omega)) rfl)
theorem rsurv_known : Known Try.prog hint 17 (svP spOK' svG fun l => rgCode (sps l)) := by
  refine known_frz fits fun xs T v T1 h => ?_
  unfold svP at h
  split at h
  case h_2 => cases h
  rename_i nl cl z l
  simp only [List.mem_cons, List.not_mem_nil, or_false, Prod.mk.injEq, Bool.true_eq, spOK', Bool.and_eq_true, decide_eq_true_eq] at h
  obtain ⟨⟨h1, h2⟩, rfl, rfl⟩ := h
  obtain ⟨rfl, hl, he⟩ := spOK_iff h1
  refine ⟨rfl, rfl, [[.fsl nl cl 3 l]], by simp, Splits.self _, fun ys hy => ?_⟩
  rw [List.mem_singleton] at hy
  subst hy
  have hll := sps_len l
  have q := rs_runs (nl := nl) (cl := cl) (ss := sps l) (lo := rgLo (sps l)) (hi := rgHi (sps l)) (e := rgCode (sps l)) (by omega)
  rw [sv_fold, List.nil_append, ← he, hll] at q
  have hls : LoopsOK Try.prog hint (acall Try.prog hint (ovrOf rsTab)) (ltab [(17, 250, LF 17 0 (oneF (rsV nl cl l (rgLo (sps l)) (rgHi (sps l)) (rgCode (sps l)) 0) [.row 0 false 1 []] (.exit 0) (rsV nl cl l (rgLo (sps l)) (rgHi (sps l)) (rgCode (sps l)) (l.length : Int)) [.row 0 false 1 ((plc (rgLo (sps l)) (rgHi (sps l)) 0 (sps l)).map (IV.int .i64))]))]) := by
    refine ltab_cons (by kernel_rfl) (loopF_ok fun vs bx e vs' bx' hm => ?_) ltab_nil
    obtain ⟨rfl, rfl, rfl, rfl, rfl⟩ := oneF_mem hm
    exact q
  refine ⟨noGd_of rfl, rsTab, _, rsTab_ok, hls, ?_⟩
  have ht := rs_call nl cl l ((plc (rgLo (sps l)) (rgHi (sps l)) 0 (sps l)).map (IV.int .i64)) spOK (fun l => rgLo (sps l)) (fun l => rgHi (sps l)) (fun l => rgCode (sps l))
  by_cases hc : rgCode (sps l) = 0
  · have hne : (rgCode (sps l) != 0) = false := by rw [hc]; rfl
    refine ⟨30, _, _, .tup [.fsl none false 1 ((plc (rgLo (sps l)) (rgHi (sps l)) 0 (sps l)).map (IV.int .i64)), .int .i64 (rgCode (sps l))], [0], ht.trans (bif_step h1 (bif_stepF hne (bif_step sameS_t rfl))), rfl, ?_⟩
    unfold svG plS
    rw [hne]
    exact Wk.refl _
  · have hne : (rgCode (sps l) != 0) = true := bne_iff_ne.2 hc
    refine ⟨30, _, _, .tup [.fsl (some true) true 0 [], .int .i64 (rgCode (sps l))], [], ht.trans (bif_step h1 (bif_step hne rfl)), rfl, ?_⟩
    unfold svG plS
    rw [hne]
    exact Wk.tup (WkL.cons (Wk.fsl rfl (.inl rfl) (by simp) (.inr rfl)) (WkL.cons (Wk.refl _) WkL.nil))
end
end Go.Proofs.Ytfcedalbamafiaa
