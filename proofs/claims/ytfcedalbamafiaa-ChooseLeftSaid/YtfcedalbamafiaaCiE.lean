/- ChooseOne: what is proved of the given program. It bears no condition. -/
import Derived.Test.YtfcedalbamafiaaCiD
namespace Go.Proofs.Ytfcedalbamafiaa
open Go Go.Im
set_option linter.unusedVariables false
set_option linter.unusedSimpArgs false
noncomputable section

/-! ### Survive -/
def inR (lo hi : Int) (s : Sp) : Bool := bif decide (s.mid ≥ lo) then decide (s.mid ≤ hi) else false
def plc (lo hi : Int) : Nat → List Sp → List Int
  | _, [] => []
  | i, s :: ss => if inR lo hi s = true then (i : Int) :: plc lo hi (i + 1) ss else plc lo hi (i + 1) ss
def svStep (lo hi : Int) (i : Nat) (out : List Int) (s : Sp) : List Int ⊕ (Ex × St) := .inl (if inR lo hi s = true then out ++ [(i : Int)] else out)
theorem sv_fold (lo hi : Int) : ∀ (ss : List Sp) (i : Nat) (out : List Int), foldE (svStep lo hi) i out ss = .inl (out ++ plc lo hi i ss)
  | [], i, out => by simp [foldE, plc]
  | s :: ss, i, out => by
    unfold foldE plc
    simp only [svStep]
    rw [sv_fold lo hi ss]
    split <;> simp
theorem plc_len (lo hi : Int) : ∀ (ss : List Sp) (i : Nat), (plc lo hi i ss).length ≤ ss.length
  | [], i => by simp [plc]
  | s :: ss, i => by
    have := plc_len lo hi ss (i + 1)
    unfold plc
    split <;> (simp only [List.length_cons]; omega)
theorem plc_mem (lo hi : Int) : ∀ (ss : List Sp) (i k : Nat) (h : k < ss.length), inR lo hi ss[k] = true → ((i + k : Nat) : Int) ∈ plc lo hi i ss
  | [], i, k, h, _ => by simp at h
  | s :: ss, i, 0, h, hi' => by
    unfold plc
    have : inR lo hi s = true := hi'
    rw [if_pos this]
    exact List.mem_cons_self ..
  | s :: ss, i, k + 1, h, hi' => by
    have := plc_mem lo hi ss (i + 1) k (by simpa using h) hi'
    rw [show i + 1 + k = i + (k + 1) by omega] at this
    unfold plc
    split
    · exact List.mem_cons_of_mem _ this
    · exact this
abbrev svTab : FuncId → Option SpecF := tab [(11, rgP spOK (fun l => rgLo (sps l)) (fun l => rgHi (sps l)) (fun l => rgCode (sps l)))]
theorem svTab_ok : ∀ f F, svTab f = some F → Known Try.prog hint f F := tab_cons region_known tab_nil
theorem sv_runs {nl : Option Bool} {cl : Bool} {ss : List Sp} {lo hi : Int} (hs : ss.length ≤ 1000000) :
    EachOK Try.prog hint (acall Try.prog hint (ovrOf svTab)) 0 (hint.kp 16) (loopAt Try.prog 16 250) (Sx 16 (svV nl cl 3 (ss.map spI) lo hi (ss.length : Int) ((0 : Nat) : Int)) [.row 0 false 1 (([] : List Int).map (IV.int .i64))]) (.exit 0)
      (fun out : List Int => Sx 16 (svV nl cl 3 (ss.map spI) lo hi (ss.length : Int) (ss.length : Int)) [.row 0 false 1 (out.map (IV.int .i64))]) (foldE (svStep lo hi) 0 [] ss) := by
  refine runs_each (X := List Int) (l := ss) (n := 30) (ls := fun _ _ => none) loops_none inner0 (fun i out => Sx 16 (svV nl cl 3 (ss.map spI) lo hi (ss.length : Int) (i : Int)) [.row 0 false 1 (out.map (IV.int .i64))]) _
    (fun i out => out.length ≤ i) (by simp) ?_ ?_ ss.length 0 [] (by omega) (by simp)
  · intro i out hi' ho
    have ht := sv_in svTab nl cl 3 (ss.map spI) (out.map (IV.int .i64)) lo hi ss.length i
    rw [nth_sp hi'] at ht
    simp only [svStep]
    generalize ss[i] = s at *
    revert ht
    (simp only [sp_t, sp_0, sp_1, sp_2])
    rw [List.length_map, wadd1 (by omega)]
    intro ht
    replace ht := fun r h => ht.trans (bif_step (r := r) (decide_eq_true (by omega)) (bif_step (decide_eq_true ⟨trivial, by omega, by omega⟩) (bif_step rfl h)))
    cases hb : inR lo hi s
    · exact .inl ⟨out, by rw [if_neg (by simp)], ht _ (bif_stepF hb rfl), by omega⟩
    · refine .inl ⟨out ++ [(i : Int)], by rw [if_pos rfl], ht _ (bif_step hb (bif_step (decide_eq_true ?_) ?_)), by simp; omega⟩
      · rw [List.length_map, roomB_nat, maxLen_val]
        simp only [List.length_cons, List.length_nil]
        omega
      · rw [List.map_append]; rfl
  · intro out ho
    exact (sv_in svTab nl cl 3 (ss.map spI) (out.map (IV.int .i64)) lo hi ss.length ss.length).trans (bif_stepF (decide_eq_false (by omega)) rfl)
/-- The places of what survives. -/
def plS (ss : List Sp) : List Int := bif rgCode ss != 0 then [] else plc (rgLo ss) (rgHi ss) 0 ss
def svG (l : List IV) : List IV := (plS (sps l)).map (IV.int .i64)
def spOK' (z : Nat) (l : List IV) : Bool := spOK z l && decide (l.length ≤ 1000000)
theorem surv_known : Known Try.prog hint 16 (svP spOK' svG fun l => rgCode (sps l)) := by
  refine known_frz fits fun xs T v T1 h => ?_
  unfold svP at h
  split at h
  case h_2 => cases h
  rename_i nl cl z l
  simp only [List.mem_cons, List.not_mem_nil, or_false, Prod.mk.injEq, Bool.true_eq, spOK', Bool.and_eq_true, decide_eq_true_eq] at h
  obtain ⟨⟨h1, h2⟩, rfl, rfl⟩ := h
  obtain ⟨rfl, hl, he⟩ := spOK_iff h1
  refine ⟨rfl, rfl, [[.fsl nl cl 3 l]], by simp, Splits.self _, fun ys hy => ?_⟩
  rw [List.mem_singleton] at hy
  subst hy
  have hll := sps_len l
  have q := sv_runs (nl := nl) (cl := cl) (ss := sps l) (lo := rgLo (sps l)) (hi := rgHi (sps l)) (by omega)
  rw [sv_fold, List.nil_append, ← he, hll] at q
  have hls : LoopsOK Try.prog hint (acall Try.prog hint (ovrOf svTab)) (ltab [(16, 250, LF 16 0 (oneF (svV nl cl 3 l (rgLo (sps l)) (rgHi (sps l)) (l.length : Int) 0) [.row 0 false 1 []] (.exit 0) (svV nl cl 3 l (rgLo (sps l)) (rgHi (sps l)) (l.length : Int) (l.length : Int)) [.row 0 false 1 ((plc (rgLo (sps l)) (rgHi (sps l)) 0 (sps l)).map (IV.int .i64))]))]) := by
    refine ltab_cons (by kernel_rfl) (loopF_ok fun vs bx e vs' bx' hm => ?_) ltab_nil
    obtain ⟨rfl, rfl, rfl, rfl, rfl⟩ := oneF_mem hm
    exact q
  refine ⟨noGd_of rfl, svTab, _, svTab_ok, hls, ?_⟩
  have ht := sv_call nl cl 3 l ((plc (rgLo (sps l)) (rgHi (sps l)) 0 (sps l)).map (IV.int .i64)) spOK (fun l => rgLo (sps l)) (fun l => rgHi (sps l)) (fun l => rgCode (sps l))
  by_cases hc : rgCode (sps l) = 0
  · have hne : (rgCode (sps l) != 0) = false := by rw [hc]; rfl
    refine ⟨30, _, _, .tup [.fsl none false 1 ((plc (rgLo (sps l)) (rgHi (sps l)) 0 (sps l)).map (IV.int .i64)), .int .i64 0], [0], ht.trans (bif_step h1 (bif_stepF hne (bif_step sameS_t rfl))), rfl, ?_⟩
    unfold svG plS
    rw [hne, hc]
    exact Wk.refl _
  · have hne : (rgCode (sps l) != 0) = true := bne_iff_ne.2 hc
    refine ⟨30, _, _, .tup [.fsl (some true) true 0 [], .int .i64 (rgCode (sps l))], [], ht.trans (bif_step h1 (bif_step hne rfl)), rfl, ?_⟩
    unfold svG plS
    rw [hne]
    exact Wk.tup (WkL.cons (Wk.fsl rfl (.inl rfl) (by simp) (.inr rfl)) (WkL.cons (Wk.refl _) WkL.nil))

/-! ### The law -/
def onStep (at_ : Int) (b : Bool) (k : Int) : Bool := b || k == at_
theorem on_fold (at_ : Int) : ∀ (ks : List Int) (b : Bool), ks.foldl (onStep at_) b = (b || ks.any fun k => k == at_)
  | [], b => by simp
  | k :: ks, b => by rw [List.foldl_cons, on_fold at_ ks]; simp [onStep, Bool.or_assoc]
abbrev tabK' : FuncId → Option SpecF := tabK spOK' svG (fun l => rgCode (sps l)) (fun l x => ((cov (sps l) x : Nat) : Int))
theorem cover_known2 : Known Try.prog hint 12 (covP spOK' fun l x => ((cov (sps l) x : Nat) : Int)) := by
  intro f xs T r T1 hr
  refine cover_known f xs T r T1 ?_
  simp only at hr ⊢
  split at hr
  case isFalse => cases hr
  rename_i hf
  rw [if_pos hf]
  obtain ⟨x, hF, e⟩ := Option.map_eq_some_iff.1 hr
  unfold covP at hF ⊢
  split at hF
  · rename_i nl cl z l y
    cases h : spOK' z l
    · simp [List.find?_cons, h] at hF
    · have h' := h
      simp only [spOK', Bool.and_eq_true] at h'
      simp [List.find?_cons, h] at hF
      subst hF
      simpa [List.find?_cons, h'.1] using e
  · cases hF
theorem tabK_ok : ∀ f F, tabK' f = some F → Known Try.prog hint f F := tab_cons alive_known' (tab_cons cover_known2 (tab_cons surv_known tab_nil))
theorem nth_int {ks : List Int} {i : Nat} (h : i < ks.length) : nthD (ks.map (IV.int .i64)) ((i : Int)).toNat = .int .i64 ks[i] := by rw [Int.toNat_natCast, nthD_mapf h]
theorem on_runs {ks : List Int} {at_ e : Int} (hs : ks.length ≤ 1000000) :
    EachOK Try.prog hint (acall Try.prog hint (ovrOf tabK')) 0 (hint.kp 7) (loopAt Try.prog 7 506) (Sx 7 (onV at_ (ks.map (IV.int .i64)) e false ((0 : Nat) : Int)) []) (.exit 0)
      (fun b : Bool => Sx 7 (onV at_ (ks.map (IV.int .i64)) e b (ks.length : Int)) []) (foldE (fun (_ : Nat) b k => (Sum.inl (onStep at_ b k) : Bool ⊕ (Ex × St))) 0 false ks) := by
  refine runs_each (X := Bool) (l := ks) (n := 30) (ls := fun _ _ => none) loops_none inner0 (fun i b => Sx 7 (onV at_ (ks.map (IV.int .i64)) e b (i : Int)) []) _
    (fun _ _ => True) (by simp) ?_ ?_ ks.length 0 false (by omega) trivial
  · intro i b hi' _
    have ht := on_in tabK' (ks.map (IV.int .i64)) at_ e i b
    rw [nth_int hi', List.length_map, wadd1 (by omega)] at ht
    refine .inl ⟨_, rfl, ?_, trivial⟩
    cases b
    · exact ht.trans (bif_step (decide_eq_true (by omega)) (bif_step rfl (bif_step (decide_eq_true ⟨rfl, by omega, by omega⟩) (bif_step rfl rfl))))
    · exact ht.trans (bif_step (decide_eq_true (by omega)) (bif_stepF rfl rfl))
  · intro b _
    have ht := on_in tabK' (ks.map (IV.int .i64)) at_ e ks.length b
    rw [List.length_map] at ht
    exact ht.trans (bif_stepF (decide_eq_false (by omega)) rfl)
theorem mid_at (s : Sp) : nthD (List.drop 1 (spI s).cells) 0 = .int .i64 s.mid := Eq.trans rfl rfl
theorem chooseOne_run (xs : List IV) (hl : xs.length = Try.f7.params.size) (h : ∀ (i : Nat) t, Try.f7.params[i]? = some t → ∃ x, xs[i]? = some x ∧ ArgT Try.prog t x) :
    ∃ k, acall Try.prog hint (ovrOf tabK') k 7 xs [] = some (.bool true, []) := by
  rw [Try.params7] at hl h
  obtain ⟨x0, g0, a0⟩ := h 0 22 rfl
  obtain ⟨x1, g1, a1⟩ := h 1 3 rfl
  match xs, hl with
  | [y0, y1], _ =>
    simp only [List.getElem?_cons_zero, List.getElem?_cons_succ, Option.some.injEq] at g0 g1
    subst g0 g1
    obtain ⟨nl, cl, l, rfl, ho⟩ := arg22 a0
    obtain ⟨at_, rfl, _⟩ := arg_int Try.underlying3 a1
    obtain ⟨-, hl', he⟩ := spOK_iff ho
    have hll := sps_len l
    have hpl : (plS (sps l)).length ≤ l.length := by
      have := plc_len (rgLo (sps l)) (rgHi (sps l)) (sps l) 0
      unfold plS
      cases rgCode (sps l) != 0
      · rw [cond_false]; omega
      · simp
    by_cases c0 : l.length ≤ 60 ∧ 0 ≤ at_ ∧ at_ < l.length
    case neg =>
      refine law_run (ls := ltab [(7, 506, noL)]) (n := 30) (ltab_cons (by kernel_rfl) (fun p s e s' h => by cases h) ltab_nil) ((on_none nl cl 3 l at_ ..).trans (bif_step ?_ rfl))
      by_cases k1 : (l.length : Int) > 60
      · rw [decide_eq_true k1]; rfl
      · rw [decide_eq_false k1, cond_false]
        by_cases k2 : at_ < 0
        · rw [decide_eq_true k2]; rfl
        · rw [decide_eq_false k2, cond_false, decide_eq_true_eq]; omega
    obtain ⟨j, rfl⟩ : ∃ j : Nat, at_ = j := ⟨at_.toNat, by omega⟩
    have hj : j < (sps l).length := by omega
    have q := on_runs (ks := plS (sps l)) (at_ := (j : Int)) (e := rgCode (sps l)) (by omega)
    rw [foldE_inl (g := onStep (j : Int)) (fun _ _ _ => rfl), on_fold, Bool.false_or] at q
    have hkl : ((svG l).length : Int) = ((plS (sps l)).length : Int) := by simp [svG]
    refine law_run (n := 30) (ltab_cons (by kernel_rfl) (loopF_ok fun vs bx e vs' bx' hm => ?_) ltab_nil) ((on_tree nl cl 3 l (j : Int) spOK' svG (fun l => rgCode (sps l)) (fun l x => ((cov (sps l) x : Nat) : Int)) ((plS (sps l)).any fun k => k == (j : Int))).trans ?_)
    · obtain ⟨rfl, rfl, rfl, rfl, rfl⟩ := oneF_mem hm
      rw [hkl]
      exact q
    have hok : spOK' 3 l = true := by unfold spOK'; rw [ho, decide_eq_true (by omega)]; rfl
    refine bif_stepF (by rw [decide_eq_false (show ¬ (l.length : Int) > 60 by omega), decide_eq_false (show ¬ (j : Int) < 0 by omega), decide_eq_false (show ¬ (j : Int) ≥ l.length by omega)]; rfl) (bif_step hok ?_)
    by_cases hb : rgBad (sps l) = true
    · have hc : rgCode (sps l) = 1 := by unfold rgCode; rw [hb]; rfl
      exact bif_stepF (by rw [hc]; rfl) rfl
    have hb' : rgBad (sps l) = false := by simpa using hb
    have hany : (sps l).any badSp = false := by
      unfold rgBad at hb'
      rw [Bool.or_eq_false_iff] at hb'
      exact hb'.2
    have hcode : rgCode (sps l) = bif (sweep (sps l)).fd then 0 else 150 := by unfold rgCode; rw [hb']; rfl
    have hnth : nthD l ((j : Int)).toNat = spI (sps l)[j] := by
      conv => lhs; rw [he]
      exact nth_sp hj
    rw [hnth, mid_at]
    refine bif_step (by rw [hcode]; cases (sweep (sps l)).fd <;> rfl) (bif_step (decide_eq_true ⟨rfl, by omega, by omega⟩) (bif_step rfl (bif_step hok ?_)))
    have hcl := cov_le (sps l) (sps l)[j].mid
    have e1 : Im.intOf (IV.int .i64 (sps l)[j].mid) = (sps l)[j].mid := rfl
    rw [e1, show (2 : Int) * ((cov (sps l) (sps l)[j].mid : Nat) : Int) = ((2 * cov (sps l) (sps l)[j].mid : Nat) : Int) by omega, wi_nat (by omega)]
    by_cases c2 : ((2 * cov (sps l) (sps l)[j].mid : Nat) : Int) ≤ (l.length : Int)
    · exact bif_step (by rw [cond_false]; exact decide_eq_true c2) rfl
    refine bif_stepF (by rw [cond_false]; exact decide_eq_false c2) (bif_step sameS_t ?_)
    obtain ⟨m1, m2, m3⟩ := sweep_maj (x := (sps l)[j].mid) hany (by omega)
    have e2 : rgLo (sps l) = (sweep (sps l)).lo := by unfold rgLo; rw [hb', m1]; rfl
    have e3 : rgHi (sps l) = (sweep (sps l)).hi := by unfold rgHi; rw [hb', m1]; rfl
    have hc0 : rgCode (sps l) = 0 := by rw [hcode, m1]; rfl
    have hin : inR (rgLo (sps l)) (rgHi (sps l)) (sps l)[j] = true := by
      unfold inR
      rw [e2, e3, decide_eq_true (show (sps l)[j].mid ≥ (sweep (sps l)).lo from m2), decide_eq_true m3]; rfl
    have hmem := plc_mem (rgLo (sps l)) (rgHi (sps l)) (sps l) 0 j hj hin
    have hp : plS (sps l) = plc (rgLo (sps l)) (rgHi (sps l)) 0 (sps l) := by unfold plS; rw [hc0]; rfl
    have hany2 : ((plS (sps l)).any fun k => k == (j : Int)) = true := by
      rw [hp, List.any_eq_true]
      exact ⟨_, hmem, by simp⟩
    rw [hany2, hc0]; rfl
end
end Go.Proofs.Ytfcedalbamafiaa
