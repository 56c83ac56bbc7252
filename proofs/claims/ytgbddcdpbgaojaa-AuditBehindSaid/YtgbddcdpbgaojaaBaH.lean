/- AuditBehind at all arguments. It bears no condition. -/
import Derived.Test.YtgbddcdpbgaojaaBaG
namespace Go.Proofs.Ytgbddcdpbgaojaa
open Go Go.Im
set_option linter.unusedVariables false
set_option linter.unusedSimpArgs false
set_option maxRecDepth 20000
noncomputable section

theorem overN_short : ∀ (es : List Ev) (n : Nat), overN n es = false → es.all shortE = true
  | [], n, h => rfl
  | e :: es, n, h => by
    unfold overN at h
    rw [Bool.or_eq_false_iff] at h
    have h1 := of_decide_eq_false h.1
    rw [List.all_cons, overN_short es _ h.2, Bool.and_true]
    unfold shortE
    exact decide_eq_true (by omega)
theorem long_short {l : List Ev} (h : longB l = false) : l.all shortE = true := by
  unfold longB at h
  rw [Bool.or_eq_false_iff] at h
  exact overN_short l 0 h.2
theorem all_take {α : Type} {p : α → Bool} {l : List α} (h : l.all p = true) (n : Nat) : (l.take n).all p = true := List.all_eq_true.2 fun x hx => List.all_eq_true.1 h x (List.mem_of_mem_take hx)
theorem gF_ok {fs : List IV} (h : fs.all isFc = true) : (gF fs).all isFc = true := by
  rw [List.all_eq_true]
  intro x hx
  obtain ⟨f, hf, rfl⟩ := List.mem_map.1 hx
  obtain ⟨y, hy, rfl⟩ := List.mem_map.1 hf
  obtain ⟨_, _, _, h2⟩ := isFc_iff (List.all_eq_true.1 h y hy)
  exact isFc_of h2 none false
theorem cT_O {l fs : List IV} (ha : l.all isEv = true) (hl : l.length ≤ 1000) (hs : (evs l).all shortE = true) (hf : fs.all isFc = true) (hfl : fs.length ≤ 1000) (t : Int) : cT (gO l) t (gF fs) = true := by
  unfold cT
  have e1 : evs (gO l) = evs l := evs_F _
  rw [e1, hs, gF_ok hf]
  unfold gO gF
  rw [all_F (all_ok ha), List.length_map, List.length_map, List.length_map, List.length_map, decide_eq_true hl, decide_eq_true hfl]
  rfl
theorem cJu_O {l fs : List IV} (ha : l.all isEv = true) (hl : l.length ≤ 1000) (hs : (evs l).all shortE = true) (hf : fs.all isFc = true) (hfl : fs.length ≤ 1000) : cJu (gO l) (gF fs) = true := by
  unfold cJu
  rw [cM_O ha hl, cT_O ha hl hs hf hfl]
  rfl
theorem gJ_O (l fs : List IV) : gJ (gO l) (gF fs) = (judge (evs l) (fcs fs)).map ivV := by
  unfold gJ
  have e1 : evs (gO l) = evs l := evs_F _
  have e2 : fcs (gF fs) = fcs fs := fcs_F _
  rw [e1, e2]

/-! ### The arguments -/
theorem cells69 : Try.prog.cellsOf 69 = 2 := by kernel_rfl
theorem bytes69 : Try.prog.bytesOf 69 = 32 := by kernel_rfl
theorem ty69 {n : Nat} {l : List IV} (h : Ty Try.prog n 69 l) : ∃ a nl cl bs, l = [.int .u32 a, .fsl nl cl 1 bs] ∧ isFc (.agg [.int .u32 a, .fsl nl cl 1 bs]) = true := by
  obtain ⟨m, _, h⟩ := ty_struct Try.underlying69 h
  simp only [FieldsT] at h
  obtain ⟨c1, r1, rfl, h1, c2, r2, rfl, h2, rfl⟩ := h
  obtain ⟨a, rfl, _⟩ := ty_int und51 h1
  obtain ⟨nl, cl, bs, rfl, o1, o2⟩ := ty52 h2
  refine ⟨a, some nl, cl, bs, rfl, ?_⟩
  unfold isFc
  simp only [Bool.and_eq_true, decide_eq_true_eq]
  exact ⟨o1, o2⟩
theorem arg23 {x : IV} (h : ArgT Try.prog 23 x) : ∃ nl cl l, x = .fsl nl cl 2 l ∧ l.all isFc = true ∧ l.length ≤ 140737488351232 := by
  obtain ⟨n, l, h1, h2, _⟩ := h
  obtain ⟨m, nl, cl, es, rfl, rfl, _, e1, e2, e3⟩ := ty_slice Try.underlying23 h1
  rw [bytes69, reach_val] at e1
  have hx : x = .fsl (some nl) cl (Try.prog.cellsOf 69) es := by
    simp only [pack, isAggT, Try.underlying23, Option.map_some] at h2
    exact (Option.some.inj h2).symm
  rw [cells69] at hx
  refine ⟨some nl, cl, es, hx, ?_, by omega⟩
  rw [List.all_eq_true]
  intro y hy
  obtain ⟨cs, hq, _, ht⟩ := e3 y hy
  obtain ⟨a, nl, cl, bs, rfl, ho⟩ := ty69 ht
  rw [pack_struct Try.underlying69 hq cells69.symm]
  exact ho

/-! ### The law -/
abbrev tabB' : FuncId → Option SpecF := tabB cE gLong cO gO cF gF cJu gJ
theorem tabB_ok : ∀ f F, tabB' f = some F → Known Try.prog hint f F := tab_cons long_known (tab_cons alive_known (tab_cons own_known (tab_cons faces_known (tab_cons judge_known tab_nil))))
theorem nthV {vs : List (Int × Int × Int)} {i : Nat} (h : i < vs.length) : nthD (vs.map ivV) ((i : Int)).toNat = .agg [.int .i64 vs[i].1, .int .i64 vs[i].2.1, .int .i64 vs[i].2.2] := by
  rw [nthD_at (by simpa using h), List.getElem_map]; rfl
theorem be_runs {A B : List (Int × Int × Int)} (hl : A.length ≤ 1000) :
    EachOK Try.prog hint (acall Try.prog hint (ovrOf tabB')) 0 (hint.kp 6) (loopAt Try.prog 6 250) (Sx 6 (beV false (A.map ivV) ((A ++ B).map ivV) ((0 : Nat) : Int)) []) (.exit 0)
      (fun _ : Unit => Sx 6 (beV false (A.map ivV) ((A ++ B).map ivV) (A.length : Int)) []) (foldE (fun (_ : Nat) (_ : Unit) (_ : Int × Int × Int) => (Sum.inl () : Unit ⊕ (Ex × St))) 0 () A) := by
  refine runs_each (X := Unit) (l := A) (n := 30) (ls := fun _ _ => none) loops_none inner0 (fun i _ => Sx 6 (beV false (A.map ivV) ((A ++ B).map ivV) (i : Int)) []) _
    (fun _ _ => True) (by simp) ?_ ?_ A.length 0 () (by omega) trivial
  · intro i _ hi _
    refine .inl ⟨(), rfl, ?_, trivial⟩
    have ht := be_in cE gLong cO gO cF gF cJu gJ (A.map ivV) ((A ++ B).map ivV) i
    have hi2 : i < (A ++ B).length := by rw [List.length_append]; omega
    have he : (A ++ B)[i] = A[i] := List.getElem_append_left hi
    rw [nthV hi, nthV hi2, he, wadd1 (by omega)] at ht
    generalize A[i] = v at *
    have q0 : Im.intOf (nthD (IV.agg [.int .i64 v.1, .int .i64 v.2.1, .int .i64 v.2.2]).cells 0) = v.1 := Eq.trans rfl rfl
    have q1 : Im.intOf (nthD (IV.agg [.int .i64 v.1, .int .i64 v.2.1, .int .i64 v.2.2]).cells 1) = v.2.1 := Eq.trans rfl rfl
    have q2 : Im.intOf (nthD (IV.agg [.int .i64 v.1, .int .i64 v.2.1, .int .i64 v.2.2]).cells 2) = v.2.2 := Eq.trans rfl rfl
    rw [q0, q1, q2] at ht
    refine ht.trans (bif_step (decide_eq_true (by rw [List.length_map]; omega)) (bif_step (decide_eq_true ⟨rfl, by omega, by rw [List.length_map]; omega⟩) (bif_step rfl (bif_step (decide_eq_true ⟨rfl, by omega, by rw [List.length_map]; omega⟩) (bif_step rfl (bif_stepF ?_ rfl))))))
    simp
  · intro _ _
    have ht := be_in cE gLong cO gO cF gF cJu gJ (A.map ivV) ((A ++ B).map ivV) A.length
    exact ht.trans (bif_stepF (decide_eq_false (by rw [List.length_map]; omega)) rfl)
theorem judge_len (es : List Ev) (fs : List Fc) : (judge es fs).length ≤ es.length := by unfold judge; rw [List.length_map]; exact mat_len es
theorem auditBehind_run (xs : List IV) (hl : xs.length = Try.f6.params.size) (h : ∀ (i : Nat) t, Try.f6.params[i]? = some t → ∃ x, xs[i]? = some x ∧ ArgT Try.prog t x) :
    ∃ k, acall Try.prog hint (ovrOf tabB') k 6 xs [] = some (.bool true, []) := by
  rw [Try.params6] at hl h
  obtain ⟨x0, g0, a0⟩ := h 0 22 rfl
  obtain ⟨x1, g1, a1⟩ := h 1 3 rfl
  obtain ⟨x2, g2, a2⟩ := h 2 23 rfl
  match xs, hl with
  | [y0, y1, y2], _ =>
    simp only [List.getElem?_cons_zero, List.getElem?_cons_succ, Option.some.injEq] at g0 g1 g2
    subst g0 g1 g2
    obtain ⟨nl, cl, l, rfl, ha, _⟩ := arg22 a0
    obtain ⟨n, rfl, _⟩ := arg_int Try.underlying3 a1
    obtain ⟨nl', cl', fs, rfl, hf, _⟩ := arg23 a2
    have hbe := be_call cE gLong cO gO cF gF cJu gJ nl cl l nl' cl' fs n
    cases hg : (bif bif bif gLong l then true else decide (n < (0 : Int)) then true else decide (n > (l.length : Int)) then true else decide ((fs.length : Int) > (20 : Int)))
    · have hlong : gLong l = false := by
        cases h0 : gLong l
        · rfl
        · rw [h0] at hg; cases hg
      rw [hlong, cond_false] at hg
      have hn0 : ¬ n < 0 := fun h0 => by rw [decide_eq_true h0] at hg; cases hg
      rw [decide_eq_false hn0, cond_false] at hg
      have hn1 : ¬ n > (l.length : Int) := fun h0 => by rw [decide_eq_true h0] at hg; cases hg
      rw [decide_eq_false hn1, cond_false] at hg
      have hfl := of_decide_eq_false hg
      obtain ⟨m, rfl⟩ : ∃ m : Nat, n = m := ⟨n.toNat, by omega⟩
      have hlen := long_len hlong
      rw [List.length_map] at hlen
      have hs := long_short hlong
      have etk : List.take (((m : Int)).toNat - 0) (List.drop 0 l) = l.take m := by rw [Int.toNat_natCast]; rfl
      rw [etk] at hbe
      have haT := all_take ha m
      have hlT : (l.take m).length ≤ 1000 := by rw [List.length_take]; omega
      have heT : evs (l.take m) = (evs l).take m := List.map_take ..
      have hsT : (evs (l.take m)).all shortE = true := by rw [heT]; exact all_take hs m
      obtain ⟨B, hB⟩ := judge_pre (evs l) m (fcs fs)
      have hc1 := cJu_O haT hlT hsT hf (by omega)
      have hc2 := cJu_O ha (by omega) hs hf (by omega)
      have hcF : cF fs = true := by unfold cF; rw [hf, decide_eq_true (by omega)]; rfl
      have hJ1 := gJ_O (l.take m) fs
      have hJ2 := gJ_O l fs
      rw [heT] at hJ1
      rw [hB] at hJ2
      have hjl := judge_len ((evs l).take m) (fcs fs)
      have hjl2 : ((evs l).take m).length ≤ 1000 := by rw [← heT, List.length_map]; exact hlT
      generalize judge ((evs l).take m) (fcs fs) = A at *
      have q := be_runs (A := A) (B := B) (by omega)
      rw [foldE_inl (g := fun (_ : Unit) (_ : Int × Int × Int) => ()) (fun _ _ _ => rfl)] at q
      rw [hJ1, hJ2] at hbe
      have hls : LoopsOK Try.prog hint (acall Try.prog hint (ovrOf tabB')) (ltab [(6, 250, LF 6 0 (oneF (beV false (A.map ivV) ((A ++ B).map ivV) 0) [] (.exit 0) (beV false (A.map ivV) ((A ++ B).map ivV) (A.length : Int)) []))]) := by
        refine ltab_cons (by kernel_rfl) (loopF_ok fun vs bx e vs' bx' hm => ?_) ltab_nil
        obtain ⟨rfl, rfl, rfl, rfl, rfl⟩ := oneF_mem hm
        exact q
      refine law_run hls (n := 30) ((hbe _).trans (bif_step ha (bif_stepF ?_ (bif_step (decide_eq_true ⟨by omega, by omega, by omega⟩) (bif_step (cO_of haT hlT) (bif_step hcF (bif_step hc1 (bif_step (cO_of ha (by omega)) (bif_step hcF (bif_step hc2 (bif_stepF (decide_eq_false ?_) (bif_step sameS_t rfl))))))))))))
      · rw [hlong, decide_eq_false hn0, decide_eq_false hn1]; exact hg
      · rw [List.length_map, List.length_map, List.length_append]; omega
    · exact law_run (ls := ltab [(6, 250, noL)]) (n := 30) (ltab_cons (by kernel_rfl) (fun p s e s' h => by cases h) ltab_nil) ((be_long cE gLong cO gO cF gF cJu gJ nl cl l nl' cl' fs n).trans (bif_step ha (bif_step hg rfl)))
end
end Go.Proofs.Ytgbddcdpbgaojaa
