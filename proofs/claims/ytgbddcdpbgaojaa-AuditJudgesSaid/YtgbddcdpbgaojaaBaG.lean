/- What is said of a log: what is proved of the given program. It bears no condition. -/
import Derived.Test.YtgbddcdpbgaojaaBaF
namespace Go.Proofs.Ytgbddcdpbgaojaa
open Go Go.Im
set_option linter.unusedVariables false
set_option linter.unusedSimpArgs false
set_option maxRecDepth 20000
noncomputable section

/-! ### Plain -/
def judge1 (es : List Ev) (fs : List Fc) (m : Int × Int) : Int × Int × Int :=
  if m.2 ≥ 0 then (1, m.1, m.2) else if (theft es m.1 fs).2 = 0 then (2, m.1, (theft es m.1 fs).1) else (3, m.1, -1)
def judge (es : List Ev) (fs : List Fc) : List (Int × Int × Int) := (mat es).map (judge1 es fs)
def ivV (v : Int × Int × Int) : IV := .agg [.int .i64 v.1, .int .i64 v.2.1, .int .i64 v.2.2]
/-! ### Faces -/
def cF (fs : List IV) : Bool := fs.all isFc && decide (fs.length ≤ 1000)
def gF (fs : List IV) : List IV := (fcs fs).map fcF
theorem fa_runs {fs : List IV} (hf : fs.all isFc = true) (hl : fs.length ≤ 1000) {nl : Option Bool} {cl : Bool} :
    EachOK Try.prog hint (acall Try.prog hint (ovrOf tabO)) 0 (hint.kp 15) (loopAt Try.prog 15 58) (Sx 15 (faV nl cl fs ((0 : Nat) : Int)) [.row 0 false 2 ((fcs (fs.take 0)).map fcF)]) (.exit 0)
      (fun _ : Unit => Sx 15 (faV nl cl fs (fs.length : Int)) [.row 0 false 2 ((fcs (fs.take fs.length)).map fcF)]) (foldE (fun (_ : Nat) (_ : Unit) (_ : IV) => (Sum.inl () : Unit ⊕ (Ex × St))) 0 () fs) := by
  refine runs_each (X := Unit) (l := fs) (n := 30) (ls := fun _ _ => none) loops_none inner0 (fun i _ => Sx 15 (faV nl cl fs (i : Int)) [.row 0 false 2 ((fcs (fs.take i)).map fcF)]) _
    (fun _ _ => True) (by simp) ?_ ?_ fs.length 0 () (by omega) trivial
  · intro i _ hi _
    refine .inl ⟨(), rfl, ?_, trivial⟩
    have ht := fa_in cJ nl cl fs ((fcs (fs.take i)).map fcF) i
    obtain ⟨nl', cl', hx, hb⟩ := isFc_iff (List.all_eq_true.1 hf _ (List.getElem_mem hi))
    have e : (fcs (fs.take (i + 1))).map fcF = (fcs (fs.take i)).map fcF ++ [fcF (fcOf fs[i])] := by
      rw [List.take_succ_eq_append_getElem hi, fcs, List.map_append, List.map_append]
      rfl
    rw [e]
    rw [nthD_at hi, wadd1 (by omega)] at ht
    generalize fcOf fs[i] = f at *
    rw [hx] at ht
    have c2 : (2 : Nat) = 2 ∧ (0 : Int) ≤ (i : Int) ∧ (i : Int) < (fs.length : Int) := ⟨rfl, by omega, by omega⟩
    refine ht.trans (bif_step (decide_eq_true (by omega)) (bif_step (decide_eq_true c2) (bif_step rfl (bif_step (decide_eq_true c2) (bif_step rfl (bif_step ?_ (bif_step (decide_eq_true ?_) rfl)))))))
    · show cJ 1 (u8s f.2) = true
      unfold cJ
      rw [okB_u8s, u8s_len, decide_eq_true hb]; rfl
    · rw [roomB_nat, maxLen_val]
      simp only [List.length_cons, List.length_nil, List.length_map, List.length_take]
      omega
  · intro _ _
    have ht := fa_in cJ nl cl fs ((fcs (fs.take fs.length)).map fcF) fs.length
    exact ht.trans (bif_stepF (decide_eq_false (by omega)) rfl)
theorem faces_known : Known Try.prog hint 15 (faP cF gF) := by
  refine known_frz fits fun us T v T1 h => ?_
  unfold faP at h
  split at h
  case h_2 => cases h
  rename_i nl cl l
  simp only [List.mem_cons, List.not_mem_nil, or_false, Prod.mk.injEq, Bool.true_eq, cF, Bool.and_eq_true, decide_eq_true_eq] at h
  obtain ⟨⟨h1, h2⟩, rfl, rfl⟩ := h
  refine ⟨rfl, rfl, [[.fsl nl cl 2 l]], by simp, Splits.self _, fun ys hy => ?_⟩
  rw [List.mem_singleton] at hy
  subst hy
  have q := fa_runs h1 h2 (nl := nl) (cl := cl)
  rw [foldE_inl (g := fun (_ : Unit) (_ : IV) => ()) (fun _ _ _ => rfl), List.take_length] at q
  have hls : LoopsOK Try.prog hint (acall Try.prog hint (ovrOf tabO)) (ltab [(15, 58, LF 15 0 (oneF (faV nl cl l 0) [.row 0 false 2 []] (.exit 0) (faV nl cl l (l.length : Int)) [.row 0 false 2 (gF l)]))]) := by
    refine ltab_cons (by kernel_rfl) (loopF_ok fun vs bx e vs' bx' hm => ?_) ltab_nil
    obtain ⟨rfl, rfl, rfl, rfl, rfl⟩ := oneF_mem hm
    exact q
  exact ⟨noGd_of rfl, tabO, _, tabO_ok, hls, 30, .osl 0 0, [.row 0 false 2 (gF l)], .fsl none false 2 (gF l), [0], (fa_call cJ nl cl l (gF l)).trans (bif_step sameS_t rfl), rfl, Wk.refl _⟩

/-! ### What is said -/
def gJ (l fs : List IV) : List IV := (judge (evs l) (fcs fs)).map ivV
def cJu (l fs : List IV) : Bool := cM l && cT l 0 fs
abbrev tabJ2 : FuncId → Option SpecF := tab [(11, matP cM gM), (14, thP cT gTa gTe)]
theorem tabJ2_ok : ∀ f F, tabJ2 f = some F → Known Try.prog hint f F := tab_cons match_known (tab_cons th_known tab_nil)
theorem ju_runs {l fs : List IV} {out : List (Int × Int)} (hT : ∀ t, cT l t fs = true) (hl : out.length ≤ 1000) {nl nl' : Option Bool} {cl cl' : Bool} :
    EachOK Try.prog hint (acall Try.prog hint (ovrOf tabJ2)) 0 (hint.kp 17) (loopAt Try.prog 17 58) (Sx 17 (juV nl cl l nl' cl' fs (out.map ivM) ((0 : Nat) : Int)) [.row 0 false 3 (((out.take 0).map (judge1 (evs l) (fcs fs))).map ivV)]) (.exit 0)
      (fun _ : Unit => Sx 17 (juV nl cl l nl' cl' fs (out.map ivM) (out.length : Int)) [.row 0 false 3 (((out.take out.length).map (judge1 (evs l) (fcs fs))).map ivV)]) (foldE (fun (_ : Nat) (_ : Unit) (_ : Int × Int) => (Sum.inl () : Unit ⊕ (Ex × St))) 0 () out) := by
  refine runs_each (X := Unit) (l := out) (n := 30) (ls := fun _ _ => none) loops_none inner0 (fun i _ => Sx 17 (juV nl cl l nl' cl' fs (out.map ivM) (i : Int)) [.row 0 false 3 (((out.take i).map (judge1 (evs l) (fcs fs))).map ivV)]) _
    (fun _ _ => True) (by simp) ?_ ?_ out.length 0 () (by omega) trivial
  · intro i _ hi _
    refine .inl ⟨(), rfl, ?_, trivial⟩
    have ht := ju_in cM gM cT gTa gTe nl cl l nl' cl' fs (out.map ivM) (((out.take i).map (judge1 (evs l) (fcs fs))).map ivV) i
    have e : ((out.take (i + 1)).map (judge1 (evs l) (fcs fs))).map ivV = ((out.take i).map (judge1 (evs l) (fcs fs))).map ivV ++ [ivV (judge1 (evs l) (fcs fs) out[i])] := by
      rw [List.take_succ_eq_append_getElem hi, List.map_append, List.map_append]
      rfl
    rw [e]
    have hlt : (((out.take i).map (judge1 (evs l) (fcs fs))).map ivV).length = i := by rw [List.length_map, List.length_map, List.length_take]; omega
    have hroom : ∀ x : IV, ((((out.take i).map (judge1 (evs l) (fcs fs))).map ivV).length + [x].length) * 24 ≤ roomB ∧ (((out.take i).map (judge1 (evs l) (fcs fs))).map ivV).length + [x].length ≤ maxLen := fun x => by
      rw [hlt, roomB_nat, maxLen_val]
      simp only [List.length_cons, List.length_nil]
      omega
    generalize hrow : ((out.take i).map (judge1 (evs l) (fcs fs))).map ivV = row at *
    have q0 : Im.intOf (nthD (IV.agg [.int .i64 out[i].1, .int .i64 out[i].2]).cells 0) = out[i].1 := Eq.trans rfl rfl
    have q1 : Im.intOf (nthD (IV.agg [.int .i64 out[i].1, .int .i64 out[i].2]).cells 1) = out[i].2 := Eq.trans rfl rfl
    rw [nthM hi, q0, q1, wadd1 (by omega)] at ht
    generalize out[i] = m at *
    replace ht := fun r k => ht.trans (bif_step (r := r) (decide_eq_true (by rw [List.length_map]; omega)) (bif_step (decide_eq_true ⟨rfl, by omega, by rw [List.length_map]; omega⟩) (bif_step rfl k)))
    by_cases h2 : m.2 ≥ 0
    · have e1 : judge1 (evs l) (fcs fs) m = (1, m.1, m.2) := by unfold judge1; rw [if_pos h2]
      rw [e1]
      exact ht _ (bif_step (decide_eq_true h2) (bif_step (decide_eq_true (hroom _)) rfl))
    · by_cases h3 : (theft (evs l) m.1 (fcs fs)).2 = 0
      · have e1 : judge1 (evs l) (fcs fs) m = (2, m.1, gTa l m.1 fs) := by unfold judge1; rw [if_neg h2, if_pos h3]; rfl
        rw [e1]
        exact ht _ (bif_stepF (decide_eq_false h2) (bif_step (hT _) (bif_step (beq_iff_eq.2 h3) (bif_step (decide_eq_true (hroom _)) rfl))))
      · have e1 : judge1 (evs l) (fcs fs) m = (3, m.1, -1) := by unfold judge1; rw [if_neg h2, if_neg h3]
        rw [e1]
        exact ht _ (bif_stepF (decide_eq_false h2) (bif_step (hT _) (bif_stepF (beq_eq_false_iff_ne.2 h3) (bif_step (decide_eq_true (hroom _)) rfl))))
  · intro _ _
    have ht := ju_in cM gM cT gTa gTe nl cl l nl' cl' fs (out.map ivM) (((out.take out.length).map (judge1 (evs l) (fcs fs))).map ivV) out.length
    exact ht.trans (bif_stepF (decide_eq_false (by rw [List.length_map]; omega)) rfl)
theorem judge_known : Known Try.prog hint 17 (juP cJu gJ) := by
  refine known_frz fits fun us T v T1 h => ?_
  unfold juP at h
  split at h
  case h_2 => cases h
  rename_i nl cl l nl' cl' fs
  simp only [List.mem_cons, List.not_mem_nil, or_false, Prod.mk.injEq, Bool.true_eq, cJu, Bool.and_eq_true] at h
  obtain ⟨⟨h1, h2⟩, rfl, rfl⟩ := h
  refine ⟨rfl, rfl, [[.fsl nl cl 5 l, .fsl nl' cl' 2 fs]], by simp, Splits.self _, fun ys hy => ?_⟩
  rw [List.mem_singleton] at hy
  subst hy
  have hml := mat_len (evs l)
  rw [List.length_map] at hml
  have hc := h1
  unfold cM at hc
  simp only [Bool.and_eq_true, decide_eq_true_eq] at hc
  have q := ju_runs (l := l) (fs := fs) (out := mat (evs l)) (fun _ => h2) (by omega) (nl := nl) (cl := cl) (nl' := nl') (cl' := cl')
  rw [foldE_inl (g := fun (_ : Unit) (_ : Int × Int) => ()) (fun _ _ _ => rfl), List.take_length] at q
  have hls : LoopsOK Try.prog hint (acall Try.prog hint (ovrOf tabJ2)) (ltab [(17, 58, LF 17 0 (oneF (juV nl cl l nl' cl' fs (gM l) 0) [.row 0 false 3 []] (.exit 0) (juV nl cl l nl' cl' fs (gM l) ((gM l).length : Int)) [.row 0 false 3 (gJ l fs)]))]) := by
    refine ltab_cons (by kernel_rfl) (loopF_ok fun vs bx e vs' bx' hm => ?_) ltab_nil
    obtain ⟨rfl, rfl, rfl, rfl, rfl⟩ := oneF_mem hm
    have e1 : gM l = (mat (evs l)).map ivM := rfl
    rw [e1, List.length_map]
    exact q
  exact ⟨noGd_of rfl, tabJ2, _, tabJ2_ok, hls, 30, .osl 0 0, [.row 0 false 3 (gJ l fs)], .fsl none false 3 (gJ l fs), [0], (ju_call cM gM cT gTa gTe nl cl l nl' cl' fs (gJ l fs)).trans (bif_step h1 (bif_step sameS_t rfl)), rfl, Wk.refl _⟩
end
end Go.Proofs.Ytgbddcdpbgaojaa
