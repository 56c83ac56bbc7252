/- AuditBehind at all arguments. It bears no condition. -/
import Derived.Test.YtgbddcdpbgaojaaBaG
namespace Go.Proofs.Ytgbddcdpbgaojaa
open Go Go.Im
set_option linter.unusedVariables false
set_option linter.unusedSimpArgs false
set_option maxRecDepth 20000
noncomputable section

theorem overN_short : ∀ (es : List Ev) (n : Nat), overN n es = false → es.all shortE = true
  | [], n, h => rfl
  | e :: es, n, h => by
    unfold overN at h
    rw [Bool.or_eq_false_iff] at h
    have h1 := of_decide_eq_false h.1
    rw [List.all_cons, overN_short es _ h.2, Bool.and_true]
    unfold shortE
    exact decide_eq_true (by omega)
theorem long_short {l : List Ev} (h : longB l = false) : l.all shortE = true := by
  unfold longB at h
  rw [Bool.or_eq_false_iff] at h
  exact overN_short l 0 h.2
theorem gF_ok {fs : List IV} (h : fs.all isFc = true) : (gF fs).all isFc = true := by
  rw [List.all_eq_true]
  intro x hx
  obtain ⟨f, hf, rfl⟩ := List.mem_map.1 hx
  obtain ⟨y, hy, rfl⟩ := List.mem_map.1 hf
  obtain ⟨_, _, _, h2⟩ := isFc_iff (List.all_eq_true.1 h y hy)
  exact isFc_of h2 none false
theorem cT_O {l fs : List IV} (ha : l.all isEv = true) (hl : l.length ≤ 1000) (hs : (evs l).all shortE = true) (hf : fs.all isFc = true) (hfl : fs.length ≤ 1000) (t : Int) : cT (gO l) t (gF fs) = true := by
  unfold cT
  have e1 : evs (gO l) = evs l := evs_F _
  rw [e1, hs, gF_ok hf]
  unfold gO gF
  rw [all_F (all_ok ha), List.length_map, List.length_map, List.length_map, List.length_map, decide_eq_true hl, decide_eq_true hfl]
  rfl
theorem cJu_O {l fs : List IV} (ha : l.all isEv = true) (hl : l.length ≤ 1000) (hs : (evs l).all shortE = true) (hf : fs.all isFc = true) (hfl : fs.length ≤ 1000) : cJu (gO l) (gF fs) = true := by
  unfold cJu
  rw [cM_O ha hl, cT_O ha hl hs hf hfl]
  rfl
theorem gJ_O (l fs : List IV) : gJ (gO l) (gF fs) = (judge (evs l) (fcs fs)).map ivV := by
  unfold gJ
  have e1 : evs (gO l) = evs l := evs_F _
  have e2 : fcs (gF fs) = fcs fs := fcs_F _
  rw [e1, e2]

/-! ### The arguments -/
theorem cells69 : Try.prog.cellsOf 69 = 2 := by kernel_rfl
theorem bytes69 : Try.prog.bytesOf 69 = 32 := by kernel_rfl
theorem ty69 {n : Nat} {l : List IV} (h : Ty Try.prog n 69 l) : ∃ a nl cl bs, l = [.int .u32 a, .fsl nl cl 1 bs] ∧ isFc (.agg [.int .u32 a, .fsl nl cl 1 bs]) = true := by
  obtain ⟨m, _, h⟩ := ty_struct Try.underlying69 h
  simp only [FieldsT] at h
  obtain ⟨c1, r1, rfl, h1, c2, r2, rfl, h2, rfl⟩ := h
  obtain ⟨a, rfl, _⟩ := ty_int und51 h1
  obtain ⟨nl, cl, bs, rfl, o1, o2⟩ := ty52 h2
  refine ⟨a, some nl, cl, bs, rfl, ?_⟩
  unfold isFc
  simp only [Bool.and_eq_true, decide_eq_true_eq]
  exact ⟨o1, o2⟩
theorem arg23 {x : IV} (h : ArgT Try.prog 23 x) : ∃ nl cl l, x = .fsl nl cl 2 l ∧ l.all isFc = true ∧ l.length ≤ 140737488351232 := by
  obtain ⟨n, l, h1, h2, _⟩ := h
  obtain ⟨m, nl, cl, es, rfl, rfl, _, e1, e2, e3⟩ := ty_slice Try.underlying23 h1
  rw [bytes69, reach_val] at e1
  have hx : x = .fsl (some nl) cl (Try.prog.cellsOf 69) es := by
    simp only [pack, isAggT, Try.underlying23, Option.map_some] at h2
    exact (Option.some.inj h2).symm
  rw [cells69] at hx
  refine ⟨some nl, cl, es, hx, ?_, by omega⟩
  rw [List.all_eq_true]
  intro y hy
  obtain ⟨cs, hq, _, ht⟩ := e3 y hy
  obtain ⟨a, nl, cl, bs, rfl, ho⟩ := ty69 ht
  rw [pack_struct Try.underlying69 hq cells69.symm]
  exact ho

theorem nthV {vs : List (Int × Int × Int)} {i : Nat} (h : i < vs.length) : nthD (vs.map ivV) ((i : Int)).toNat = .agg [.int .i64 vs[i].1, .int .i64 vs[i].2.1, .int .i64 vs[i].2.2] := by
  rw [nthD_at (by simpa using h), List.getElem_map]; rfl
theorem judge_len (es : List Ev) (fs : List Fc) : (judge es fs).length ≤ es.length := by unfold judge; rw [List.length_map]; exact mat_len es
end
end Go.Proofs.Ytgbddcdpbgaojaa
