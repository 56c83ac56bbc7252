/- The document's Combine: what the given program does. It bears no condition. -/
import Derived.Test.YtfcedalbamafiaaCiV
namespace Go.Proofs.Ytfcedalbamafiaa
open Go Go.Im
set_option linter.unusedVariables false
set_option linter.unusedSimpArgs false
noncomputable section

theorem getD_at {l : List Int} {i : Nat} (h : i < l.length) : l[i] = l.getD i 0 := by rw [List.getD_eq_getElem?_getD, List.getElem?_eq_getElem h]; rfl
abbrev tabX : FuncId → Option SpecF := tab [(14, fitQ cF fitB)]
theorem tabX_ok : ∀ f F, tabX f = some F → Known Try.prog hint f F := tab_cons (fitQ_known rfit_known) tab_nil
theorem rk_round {zs ws : List Int} (h : FitP zs ws) {nl nl' : Option Bool} {cl cl' : Bool} {i : Nat} (hi : i < zs.length) :
    Rd tabX 22 250 (Sx 22 (rkV nl cl (I64 zs) nl' cl' (I64 ws) (comS zs ws i) (comA ws i) i) []) = some (.normal, Sx 22 (rkV nl cl (I64 zs) nl' cl' (I64 ws) (comS zs ws (i + 1)) (comA ws (i + 1)) ((i + 1 : Nat) : Int)) []) := by
  have hi' : i < ws.length := by rw [← h.len]; exact hi
  have ht := rm_in tabX nl cl (I64 zs) nl' cl' (I64 ws) (comS zs ws i) (comA ws i) i
  have hf := h.few
  have hd := h.dist _ (getD_mem hi')
  have s1 := h.sum (n := i) (by omega)
  have s2 := h.sum (n := i + 1) (by omega)
  have a1 := h.all (n := i) (by omega)
  have a2 := h.all (n := i + 1) (by omega)
  have t := h.term hi
  have es : comS zs ws (i + 1) = comS zs ws i + weightG (ws.getD i 0) * zs.getD i 0 := rfl
  have ea : comA ws (i + 1) = comA ws i + weightG (ws.getD i 0) := rfl
  rw [nthN hi, nthN hi', io2, io2, I64_len, I64_len, wadd1 (by omega), getD_at hi, getD_at hi'] at ht
  generalize ws.getD i 0 = d at *
  generalize zs.getD i 0 = z at *
  have b0 : 0 ≤ d / 65536 ∧ d / 65536 ≤ 16777216 := by omega
  have e1 : d.tdiv 65536 = d / 65536 := by rw [tdiv_pos _ (by decide), if_pos hd.1]
  have e3 : (65536 : Int).tdiv (d / 65536 + 1) = 65536 / (d / 65536 + 1) := Int.tdiv_eq_ediv_of_nonneg (by decide)
  have b1 : 0 ≤ 65536 / (d / 65536 + 1) := Int.ediv_nonneg (by decide) (by omega)
  have b2 : 65536 / (d / 65536 + 1) ≤ 65536 := Int.ediv_le_self _ (by decide)
  rw [e1, i64s (x := d / 65536) (by omega), i64s (x := d / 65536 + 1) (by omega), e3, i64s (x := 65536 / (d / 65536 + 1)) (by omega)] at ht
  have c2 : (1 : Nat) = 1 ∧ (0 : Int) ≤ (i : Int) ∧ (i : Int) < (ws.length : Int) := ⟨rfl, by omega, by omega⟩
  have c1 : (1 : Nat) = 1 ∧ (0 : Int) ≤ (i : Int) ∧ (i : Int) < (zs.length : Int) := ⟨rfl, by omega, by omega⟩
  replace ht := fun r k => ht.trans (bif_step (r := r) (decide_eq_true (by omega)) (bif_step (decide_eq_true c2) (bif_step rfl (bif_stepF (decide_eq_false (by omega)) k))))
  rw [es, ea]
  rw [es] at s2
  rw [ea] at a2
  unfold weightG at *
  by_cases hw : 65536 / (d / 65536 + 1) < 1
  · rw [if_pos hw] at t s2 a2 ⊢
    refine ht _ (bif_step (decide_eq_true hw) (bif_step (decide_eq_true c1) (bif_step rfl ?_)))
    rw [i64s (x := 1 * z) (by omega), i64s (x := comS zs ws i + 1 * z) (by omega), i64s (x := comA ws i + 1) (by omega)]
  · rw [if_neg hw] at t s2 a2 ⊢
    refine ht _ (bif_stepF (decide_eq_false hw) (bif_step (decide_eq_true c1) (bif_step rfl ?_)))
    rw [i64s (x := 65536 / (d / 65536 + 1) * z) (by omega), i64s (x := comS zs ws i + 65536 / (d / 65536 + 1) * z) (by omega), i64s (x := comA ws i + 65536 / (d / 65536 + 1)) (by omega)]
theorem rk_runs {zs ws : List Int} (h : FitP zs ws) {nl nl' : Option Bool} {cl cl' : Bool} :
    EachOK Try.prog hint (acall Try.prog hint (ovrOf tabX)) 0 (hint.kp 22) (loopAt Try.prog 22 250) (Sx 22 (rkV nl cl (I64 zs) nl' cl' (I64 ws) (comS zs ws 0) (comA ws 0) ((0 : Nat) : Int)) []) (.exit 0)
      (fun _ : Unit => Sx 22 (rkV nl cl (I64 zs) nl' cl' (I64 ws) (comS zs ws zs.length) (comA ws zs.length) (zs.length : Int)) []) (foldE (fun (_ : Nat) (_ : Unit) (_ : Int) => (Sum.inl () : Unit ⊕ (Ex × St))) 0 () zs) := by
  refine runs_each (X := Unit) (l := zs) (n := 30) (ls := fun _ _ => none) loops_none inner0 (fun i _ => Sx 22 (rkV nl cl (I64 zs) nl' cl' (I64 ws) (comS zs ws i) (comA ws i) (i : Int)) []) _
    (fun _ _ => True) (by simp) ?_ ?_ zs.length 0 () (by omega) trivial
  · intro i _ hi _
    exact .inl ⟨(), rfl, rk_round h hi, trivial⟩
  · intro _ _
    have ht := rm_in tabX nl cl (I64 zs) nl' cl' (I64 ws) (comS zs ws zs.length) (comA ws zs.length) zs.length
    rw [I64_len] at ht
    exact ht.trans (bif_stepF (decide_eq_false (by omega)) rfl)
def coP (c : List IV → List IV → Bool) (v e : List IV → List IV → Int) : SpecF := fun us T => match us, T with
  | [.fsl nl cl 1 xs, .fsl nl' cl' 1 ys], [] => [(c xs ys, .tup [.int .i64 (v xs ys), .int .i64 (e xs ys)], [])]
  | _, _ => []
theorem co_known : Known Try.prog hint 13 (coP cCl combV combE) := by
  intro f us T r T1 hr
  refine comb_known f us T r T1 ?_
  simp only at hr ⊢
  split at hr
  case isFalse => cases hr
  rename_i hf
  rw [if_pos hf]
  obtain ⟨x, hF, e⟩ := Option.map_eq_some_iff.1 hr
  refine Option.map_eq_some_iff.2 ⟨x, ?_, e⟩
  unfold coP at hF
  split at hF
  · exact hF
  · cases hF
theorem rco_known : Known Try.prog hint 22 (coP cCl combV combE) := by
  refine known_alt fits fun us T v T1 h => ?_
  unfold coP at h
  split at h
  case h_2 => cases h
  rename_i nl cl xs nl' cl' ys
  simp only [List.mem_cons, List.not_mem_nil, or_false, Prod.mk.injEq, Bool.true_eq] at h
  obtain ⟨h1, rfl, rfl⟩ := h
  refine ⟨[[.fsl nl cl 1 xs, .fsl nl' cl' 1 ys]], by simp, Splits.self _, fun qs hq => ?_⟩
  rw [List.mem_singleton] at hq
  subst hq
  have hno : LoopsOK Try.prog hint (acall Try.prog hint (ovrOf tabX)) (ltab [(22, 250, noL)]) := ltab_cons (by kernel_rfl) (fun p s e s' h => by cases h) ltab_nil
  cases hf : fitB xs ys with
  | false => exact ⟨noGd_of rfl, tabX, _, tabX_ok, hno, 30, _, Wk.refl _, (rm_bad nl cl xs nl' cl' ys cF fitB).trans (bif_step h1 (bif_step (by rw [hf]; rfl) (by simp [combV, combE, hf])))⟩
  | true =>
    by_cases hx : xs = []
    · subst hx
      exact ⟨noGd_of rfl, tabX, _, tabX_ok, hno, 30, _, Wk.refl _, (rm_bad nl cl [] nl' cl' ys cF fitB).trans (bif_step h1 (bif_stepF (by rw [hf]; rfl) (bif_step rfl (by simp [combV, combE, hf]))))⟩
    · have hp := fitB_p hf
      obtain ⟨ex, ey⟩ := cF_iff h1
      have hl : xs.length ≠ 0 := by simpa using hx
      have hn : xs.length = (toInts xs).length := by simp [toInts]
      have hV : combV xs ys = comS (toInts xs) (toInts ys) (toInts xs).length / comA (toInts ys) (toInts xs).length := by rw [← hn]; simp [combV, hf, hx]
      have hE : combE xs ys = 0 := by simp [combE, hf, hx]
      rw [hV, hE]
      have hs := hp.sum (n := (toInts xs).length) (by omega)
      have ha := hp.all (n := (toInts xs).length) (by omega)
      have hfl := floor_of (comS (toInts xs) (toInts ys) (toInts xs).length) (comA (toInts ys) (toInts xs).length) (by omega)
      have tb := tdiv_bound (s := comS (toInts xs) (toInts ys) (toInts xs).length) (a := comA (toInts ys) (toInts xs).length) (by omega) hs.1 hs.2
      have q := rk_runs hp (nl := nl) (nl' := nl') (cl := cl) (cl' := cl')
      rw [foldE_inl (g := fun (_ : Unit) (_ : Int) => ()) (fun _ _ _ => rfl)] at q
      have hls : LoopsOK Try.prog hint (acall Try.prog hint (ovrOf tabX)) (ltab [(22, 250, LF 22 0 (oneF (rkV nl cl xs nl' cl' ys 0 0 0) [] (.exit 0) (rkV nl cl xs nl' cl' ys (comS (toInts xs) (toInts ys) (toInts xs).length) (comA (toInts ys) (toInts xs).length) (xs.length : Int)) []))]) := by
        refine ltab_cons (by kernel_rfl) (loopF_ok fun vs bx e vs' bx' hm => ?_) ltab_nil
        obtain ⟨rfl, rfl, rfl, rfl, rfl⟩ := oneF_mem hm
        have q' : Runs Try.prog hint (acall Try.prog hint (ovrOf tabX)) 0 (hint.kp 22) (loopAt Try.prog 22 250) (Sx 22 (rkV nl cl (I64 (toInts xs)) nl' cl' (I64 (toInts ys)) 0 0 0) []) (.exit 0) (Sx 22 (rkV nl cl (I64 (toInts xs)) nl' cl' (I64 (toInts ys)) (comS (toInts xs) (toInts ys) (toInts xs).length) (comA (toInts ys) (toInts xs).length) ((toInts xs).length : Int)) []) := q
        rw [← hn] at q' ⊢
        rw [← ex, ← ey] at q'
        exact q'
      have ht := rm_call nl cl xs nl' cl' ys (comS (toInts xs) (toInts ys) (toInts xs).length) (comA (toInts ys) (toInts xs).length) cF fitB
      refine ⟨noGd_of rfl, tabX, _, tabX_ok, hls, 30, _, Wk.refl _, ht.trans (bif_step h1 (bif_stepF (by rw [hf]; rfl) (bif_stepF (by simpa using hl) (bif_step sameS_t (bif_stepF (decide_eq_false (by omega)) ?_)))))⟩
      rw [← hfl]
      have htm := tmod_pos (comS (toInts xs) (toInts ys) (toInts xs).length) (b := comA (toInts ys) (toInts xs).length) (by omega)
      generalize comS (toInts xs) (toInts ys) (toInts xs).length = s at *
      generalize comA (toInts ys) (toInts xs).length = a at *
      have h3 := Int.emod_nonneg s (show a ≠ 0 by omega)
      have h4 := Int.emod_nonneg (-s) (show a ≠ 0 by omega)
      by_cases hs0 : s < 0
      · refine bif_step (by rw [decide_eq_true hs0]; rfl) (bif_stepF (decide_eq_false (by omega)) ?_)
        rw [if_neg (by omega)] at htm
        by_cases hm : s.tmod a = 0
        · rw [if_neg (by omega)]
          exact bif_stepF (by rw [hm]; rfl) (by rw [i64s (by omega)])
        · rw [if_pos (by omega)]
          exact bif_step (bne_iff_ne.2 hm) (by rw [i64s (x := s.tdiv a) (by omega), i64s (by omega)])
      · refine bif_stepF (by rw [decide_eq_false hs0]; rfl) ?_
        rw [if_pos (by omega)] at htm
        rw [if_neg (by omega), i64s (by omega)]
end
end Go.Proofs.Ytfcedalbamafiaa
