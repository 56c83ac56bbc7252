/- Region: what is proved of the given program. It bears no condition. -/
import Derived.Test.YtfcedalbamafiaaChY
namespace Go.Proofs.Ytfcedalbamafiaa
open Go Go.Im
set_option linter.unusedVariables false
set_option linter.unusedSimpArgs false
noncomputable section

abbrev RCall : Nat → CallF := acall Try.prog hint (ovrOf rgTab)
theorem r1_runs {nl : Option Bool} {cl : Bool} {ss : List Sp} (hs : ss.length ≤ 64) :
    EachOK Try.prog hint RCall 0 (hint.kp 11) (loopAt Try.prog 11 122) (Sx 11 (rgV nl cl 3 (ss.map spI) (ss.length : Int) ((0 : Nat) : Int)) [.row 0 false 2 (([] : List (Int × Int)).map ivE)]) (.exit 0)
      (fun es : List (Int × Int) => Sx 11 (rgV nl cl 3 (ss.map spI) (ss.length : Int) (ss.length : Int)) [.row 0 false 2 (es.map ivE)]) (foldE (fun (_ : Nat) es s => (Sum.inl (es ++ [(s.lo, 1), (s.hi, -1)]) : List (Int × Int) ⊕ (Ex × St))) 0 [] ss) := by
  refine runs_each (X := List (Int × Int)) (l := ss) (n := 30) (ls := fun _ _ => none) loops_none inner0 (fun i es => Sx 11 (rgV nl cl 3 (ss.map spI) (ss.length : Int) (i : Int)) [.row 0 false 2 (es.map ivE)]) _
    (fun i es => es.length ≤ 2 * i) (by simp) ?_ ?_ ss.length 0 [] (by omega) (by simp)
  · intro i es hi hes
    have ht := rg_in1 rgTab nl cl 3 (ss.map spI) (es.map ivE) ss.length i
    rw [nth_sp hi] at ht
    generalize ss[i] = s at *
    revert ht
    (simp only [sp_t, sp_0, sp_1, sp_2])
    rw [List.length_map, wadd1 (by omega)]
    intro ht
    refine .inl ⟨_, rfl, ht.trans (bif_step (decide_eq_true (by omega)) (bif_step (decide_eq_true ⟨trivial, by omega, by omega⟩) (bif_step rfl (bif_step (decide_eq_true ?_) ?_)))), by simp; omega⟩
    · rw [List.length_map, roomB_nat, maxLen_val]
      simp only [List.length_cons, List.length_nil]
      omega
    · rw [List.map_append]; rfl
  · intro es hes
    exact (rg_in1 rgTab nl cl 3 (ss.map spI) (es.map ivE) ss.length ss.length).trans (bif_stepF (decide_eq_false (by omega)) rfl)

/-! ### The sweep -/
structure Sw where
  (lo hi hv : Int) (fd : Bool)
def swStep (n : Int) (w : Sw) (e : Int × Int) : Sw := if e.2 > 0 then (if 2 * (w.hv + 1) > n ∧ w.fd = false then ⟨e.1, w.hi, w.hv + 1, true⟩ else ⟨w.lo, w.hi, w.hv + 1, w.fd⟩)
  else (if 2 * w.hv > n then ⟨w.lo, e.1, w.hv - 1, w.fd⟩ else ⟨w.lo, w.hi, w.hv - 1, w.fd⟩)
abbrev swS (nl : Option Bool) (cl : Bool) (ss : List Sp) (es : List (Int × Int)) (w : Sw) (i : Int) : St := Sx 11 (rhV nl cl 3 (ss.map spI) (ss.length : Int) w.lo w.hi w.hv w.fd (es.length : Int) i) [.row 0 false 2 (es.map ivE)]
theorem nth_iv {es : List (Int × Int)} {i : Nat} (h : i < es.length) : nthD (es.map ivE) ((i : Int)).toNat = ivE es[i] := by rw [Int.toNat_natCast, nthD_mapf h]
theorem iv_t (e : Int × Int) : testAll ([LT.i IntKind.i64] ++ ([LT.i IntKind.i64] ++ [])) 0 (List.drop 0 (ivE e).cells) = true := Eq.trans rfl rfl
theorem iv_0 (e : Int × Int) : Im.intOf (nthD (List.drop 0 (ivE e).cells) 0) = e.1 := Eq.trans rfl rfl
theorem iv_1 (e : Int × Int) : Im.intOf (nthD (List.drop 0 (ivE e).cells) 1) = e.2 := Eq.trans rfl rfl
theorem w2 {x : Int} (h : -100000 ≤ x ∧ x ≤ 100000) : IntKind.i64.wrap (2 * x) = 2 * x := by rw [wrap_i64]; omega
theorem wp {x : Int} (h : -100000 ≤ x ∧ x ≤ 100000) : IntKind.i64.wrap (x + 1) = x + 1 := by rw [wrap_i64]; omega
theorem wm {x : Int} (h : -100000 ≤ x ∧ x ≤ 100000) : IntKind.i64.wrap (x - 1) = x - 1 := by rw [wrap_i64]; omega
theorem r2_runs {nl : Option Bool} {cl : Bool} {ss : List Sp} {es : List (Int × Int)} (hs : ss.length ≤ 64) (he : es.length ≤ 1000) :
    EachOK Try.prog hint RCall 0 (hint.kp 11) (loopAt Try.prog 11 1018) (swS nl cl ss es ⟨0, 0, 0, false⟩ ((0 : Nat) : Int)) (.exit 2)
      (fun w : Sw => swS nl cl ss es w (es.length : Int)) (foldE (fun (_ : Nat) w e => (Sum.inl (swStep (ss.length : Int) w e) : Sw ⊕ (Ex × St))) 0 ⟨0, 0, 0, false⟩ es) := by
  refine runs_each (X := Sw) (l := es) (n := 30) (ls := fun _ _ => none) loops_none inner0 (fun i w => swS nl cl ss es w (i : Int)) _
    (fun i w => -(i : Int) ≤ w.hv ∧ w.hv ≤ i) (by simp) ?_ ?_ es.length 0 ⟨0, 0, 0, false⟩ (by omega) (by simp)
  · intro i w hi hw
    have ht := rg_in2 rgTab nl cl 3 (ss.map spI) (es.map ivE) ss.length w.lo w.hi w.hv w.fd es.length i
    rw [nth_iv hi] at ht
    have hst : -(((i + 1 : Nat) : Int)) ≤ (swStep (ss.length : Int) w es[i]).hv ∧ (swStep (ss.length : Int) w es[i]).hv ≤ ((i + 1 : Nat) : Int) := by
      unfold swStep
      (repeat' split) <;> (dsimp only; omega)
    refine .inl ⟨_, rfl, ?_, hst⟩
    clear hst
    generalize es[i] = e at *
    revert ht
    simp only [iv_t, iv_0, iv_1]
    rw [wp (by omega), w2 (by omega), w2 (by omega), wm (by omega), wadd1 (by omega), List.length_map, List.length_map, Int.toNat_natCast]
    intro ht
    refine ht.trans (bif_step (decide_eq_true (by omega)) (bif_step (decide_eq_true (by omega)) (bif_step (decide_eq_true (by omega)) (bif_step rfl ?_))))
    unfold swStep
    by_cases h1 : e.2 > 0
    · rw [if_pos h1]
      refine bif_step (decide_eq_true h1) ?_
      by_cases h2 : 2 * (w.hv + 1) > (ss.length : Int) ∧ w.fd = false
      · rw [if_pos h2]
        exact bif_step (by rw [decide_eq_true h2.1, h2.2]; rfl) rfl
      · rw [if_neg h2]
        refine bif_stepF ?_ rfl
        by_cases h3 : 2 * (w.hv + 1) > (ss.length : Int)
        · rw [decide_eq_true h3, cond_true]
          cases hf : w.fd
          · exact absurd ⟨h3, hf⟩ h2
          · rfl
        · rw [decide_eq_false h3]; rfl
    · rw [if_neg h1]
      refine bif_stepF (decide_eq_false h1) ?_
      by_cases h2 : 2 * w.hv > (ss.length : Int)
      · rw [if_pos h2]
        exact bif_step (decide_eq_true h2) rfl
      · rw [if_neg h2]
        exact bif_stepF (decide_eq_false h2) rfl
  · intro w hw
    exact (rg_in2 rgTab nl cl 3 (ss.map spI) (es.map ivE) ss.length w.lo w.hi w.hv w.fd es.length es.length).trans (bif_stepF (decide_eq_false (by omega)) rfl)

/-- What the sweep comes to. -/
def sweep (ss : List Sp) : Sw := (sortE (endsOf ss)).foldl (swStep (ss.length : Int)) ⟨0, 0, 0, false⟩
def rgBad (ss : List Sp) : Bool := decide (ss.length > 64) || ss.any badSp
def rgCode (ss : List Sp) : Int := bif rgBad ss then 1 else bif (sweep ss).fd then 0 else 150
def rgLo (ss : List Sp) : Int := bif rgBad ss then 0 else bif (sweep ss).fd then (sweep ss).lo else 0
def rgHi (ss : List Sp) : Int := bif rgBad ss then 0 else bif (sweep ss).fd then (sweep ss).hi else 0
def rgP (c : Nat → List IV → Bool) (lo hi co : List IV → Int) : SpecF := fun xs T => match xs, T with
  | [.fsl nl cl z l], [] => [(c z l, .tup [.int .i64 (lo l), .int .i64 (hi l), .int .i64 (co l)], [])]
  | _, _ => []
theorem all_ends (es : List (Int × Int)) : (es.map ivE).all isEnd = true := by
  rw [List.all_map, List.all_eq_true]; intro x _; rfl
theorem map_endOf (es : List (Int × Int)) : (es.map ivE).map endOf = es := by
  rw [List.map_map]
  have : endOf ∘ ivE = id := by funext x; rfl
  rw [this, List.map_id]
theorem sortL_iv (es : List (Int × Int)) : sortL (es.map ivE) = (sortE es).map ivE := by unfold sortL; rw [map_endOf]
theorem region_known : Known Try.prog hint 11 (rgP spOK (fun l => rgLo (sps l)) (fun l => rgHi (sps l)) (fun l => rgCode (sps l))) := by
  refine known_alt fits fun xs T v T1 h => ?_
  unfold rgP at h
  split at h
  case h_2 => cases h
  rename_i nl cl z l
  simp only [List.mem_cons, List.not_mem_nil, or_false, Prod.mk.injEq, Bool.true_eq] at h
  obtain ⟨h1, rfl, rfl⟩ := h
  obtain ⟨rfl, hl, he⟩ := spOK_iff h1
  refine ⟨[[.fsl nl cl 3 l]], by simp, Splits.self _, fun ys hy => ?_⟩
  rw [List.mem_singleton] at hy
  subst hy
  have hll := sps_len l
  have bad : rgBad (sps l) = true → some (IV.tup [.int .i64 0, .int .i64 0, .int .i64 1], ([] : List Blk)) = some (.tup [.int .i64 (rgLo (sps l)), .int .i64 (rgHi (sps l)), .int .i64 (rgCode (sps l))], []) := by
    intro h
    unfold rgLo rgHi rgCode
    rw [h]; rfl
  have lno : LoopsOK Try.prog hint (acall Try.prog hint (ovrOf rgTab)) (ltab [(11, 122, noL)]) := ltab_cons (by kernel_rfl) (fun p s e s' h => by cases h) ltab_nil
  by_cases c1 : l.length > 64
  · refine ⟨noGd_of rfl, rgTab, _, rgTab_ok, lno, 30, _, Wk.refl _, (rg_bad nl cl 3 l spOK fun l => (sps l).any badSp).trans (bif_stepF (by rw [decide_eq_true (by omega)]; rfl) (bad ?_))⟩
    unfold rgBad; rw [decide_eq_true (by omega)]; rfl
  cases c2 : (sps l).any badSp
  case true =>
    refine ⟨noGd_of rfl, rgTab, _, rgTab_ok, lno, 30, _, Wk.refl _, (rg_bad nl cl 3 l spOK fun l => (sps l).any badSp).trans (bif_step (by rw [decide_eq_false (by omega)]; rfl) (bif_step h1 (bif_step (by rw [c2]; rfl) (bad ?_))))⟩
    unfold rgBad; rw [c2, Bool.or_true]
  have hs64 : (sps l).length ≤ 64 := by omega
  have hb : rgBad (sps l) = false := by unfold rgBad; rw [c2, decide_eq_false (by omega)]; rfl
  have hE := endsOf_len (sps l)
  have q1 := r1_runs (nl := nl) (cl := cl) (ss := sps l) hs64
  rw [foldE_inl (g := fun (es : List (Int × Int)) (s : Sp) => es ++ [(s.lo, 1), (s.hi, -1)]) (fun _ _ _ => rfl), ends_fold, List.nil_append, ← he, hll] at q1
  have q2 := r2_runs (nl := nl) (cl := cl) (ss := sps l) (es := sortE (endsOf (sps l))) hs64 (by rw [sortE_len]; omega)
  rw [foldE_inl (g := swStep ((sps l).length : Int)) (fun _ _ _ => rfl)] at q2
  unfold swS at q2
  rw [← he, hll, ← sortL_iv] at q2
  have hlen : (sortE (endsOf (sps l))).length = (sortL ((endsOf (sps l)).map ivE)).length := by rw [sortL_iv, List.length_map]
  rw [hlen] at q2
  refine ⟨noGd_of rfl, rgTab, _, rgTab_ok, ltab_cons (by kernel_rfl) (loopF_ok fun vs bx e vs' bx' hm => ?_) (ltab_cons (by kernel_rfl) (loopF_ok fun vs bx e vs' bx' hm => ?_) ltab_nil), 30, _, Wk.refl _,
    (rg_call nl cl 3 l ((endsOf (sps l)).map ivE) spOK (fun l => (sps l).any badSp) (sweep (sps l)).lo (sweep (sps l)).hi (sweep (sps l)).hv (sweep (sps l)).fd).trans ?_⟩
  · obtain ⟨rfl, rfl, rfl, rfl, rfl⟩ := oneF_mem hm
    exact q1
  · obtain ⟨rfl, rfl, rfl, rfl, rfl⟩ := oneF_mem hm
    have hsw : sweep (sps l) = (sortE (endsOf (sps l))).foldl (swStep (l.length : Int)) ⟨0, 0, 0, false⟩ := by unfold sweep; rw [hll]
    rw [hsw]
    exact q2
  refine bif_step (by rw [decide_eq_false (by omega)]; rfl) (bif_step h1 (bif_stepF (by rw [c2]; rfl) (bif_step sameS_t (bif_step ?_ ?_))))
  · rw [all_ends, decide_eq_true (by rw [List.length_map]; omega)]; rfl
  have fin : (bif sameS (rhV nl cl 3 l (l.length : Int) 0 0 0 false (sortL ((endsOf (sps l)).map ivE)).length 0) [.row 0 false 2 (sortL ((endsOf (sps l)).map ivE))] then rgR (sweep (sps l)).fd (sweep (sps l)).lo (sweep (sps l)).hi else none) =
      some (.tup [.int .i64 (rgLo (sps l)), .int .i64 (rgHi (sps l)), .int .i64 (rgCode (sps l))], []) := by
    refine bif_step sameS_t ?_
    unfold rgR rgLo rgHi rgCode
    rw [hb]
    cases (sweep (sps l)).fd <;> rfl
  cases (sortL ((endsOf (sps l)).map ivE)).isEmpty && true
  · exact bif_stepF rfl fin
  · exact bif_step rfl fin
end
end Go.Proofs.Ytfcedalbamafiaa
