/- The document's Region: what is proved of the given program. It bears no condition. -/
import Derived.Test.YtfcedalbamafiaaCiK
namespace Go.Proofs.Ytfcedalbamafiaa
open Go Go.Im
set_option linter.unusedVariables false
set_option linter.unusedSimpArgs false
noncomputable section

abbrev reTab : FuncId → Option SpecF := tab [(18, covP spOK fun l x => ((cov (sps l) x : Nat) : Int))]
theorem reTab_ok : ∀ f F, reTab f = some F → Known Try.prog hint f F := tab_cons rcover_known tab_nil
theorem mid_at' (s : Sp) : nthD (List.drop 1 (spI s).cells) 0 = .int .i64 s.mid := Eq.trans rfl rfl
theorem re_runs {nl : Option Bool} {cl : Bool} {ss : List Sp} (hs : ss.length ≤ 64) :
    EachOK Try.prog hint (acall Try.prog hint (ovrOf reTab)) 0 (hint.kp 15) (loopAt Try.prog 15 58) (Sx 15 (reV nl cl (ss.map spI) 0 ((0 : Nat) : Int)) []) (.exit 0)
      (fun _ : Unit => Sx 15 (reV nl cl (ss.map spI) 0 (ss.length : Int)) []) (foldE (ixStep fun i => Sx 15 (reV nl cl (ss.map spI) 1 (i : Int)) []) 0 () ss) := by
  refine runs_each (X := Unit) (l := ss) (n := 30) (ls := fun _ _ => none) loops_none inner0 (fun i _ => Sx 15 (reV nl cl (ss.map spI) 0 (i : Int)) []) _
    (fun _ _ => True) (by simp) ?_ ?_ ss.length 0 () (by omega) trivial
  · intro i _ hi _
    have ht := re_in reTab nl cl (ss.map spI) i
    rw [nth_sp hi, lo_at, mid_at', hi_at, List.length_map, wadd1 (by omega)] at ht
    simp only [ixStep]
    generalize ss[i] = s at *
    have hd : (3 : Nat) = 3 ∧ (0 : Int) ≤ (i : Int) ∧ (i : Int) < (ss.length : Int) := ⟨rfl, by omega, by omega⟩
    have e0 : Im.intOf (IV.int .i64 s.lo) = s.lo := rfl
    have e1 : Im.intOf (IV.int .i64 s.mid) = s.mid := rfl
    have e2 : Im.intOf (IV.int .i64 s.hi) = s.hi := rfl
    rw [e0, e1, e2] at ht
    replace ht := fun r h => ht.trans (bif_step (r := r) (decide_eq_true (by omega)) (bif_step (decide_eq_true hd) (bif_step rfl (bif_step (decide_eq_true hd) (bif_step rfl h)))))
    by_cases h1 : s.lo > s.mid
    · have hb : badSp s = true := by unfold badSp; rw [decide_eq_true h1]; rfl
      exact .inr ⟨_, _, if_pos hb, by simp, ht _ (bif_stepF (by rw [decide_eq_true h1]; rfl) rfl)⟩
    · replace ht := fun r h => ht _ (bif_step (r := r) (by rw [decide_eq_false h1]; rfl) (bif_step (decide_eq_true hd) (bif_step rfl (bif_step (decide_eq_true hd) (bif_step rfl h)))))
      by_cases h2 : s.mid > s.hi
      · have hb : badSp s = true := by unfold badSp; rw [decide_eq_false h1, decide_eq_true h2]; rfl
        exact .inr ⟨_, _, if_pos hb, by simp, ht _ (bif_step (by rw [cond_false]; exact decide_eq_true h2) rfl)⟩
      · have hb : badSp s = false := by unfold badSp; rw [decide_eq_false h1, decide_eq_false h2]; rfl
        exact .inl ⟨(), if_neg (by rw [hb]; simp), ht _ (bif_stepF (by rw [cond_false]; exact decide_eq_false h2) rfl), trivial⟩
  · intro _ _
    have ht := re_in reTab nl cl (ss.map spI) ss.length
    rw [List.length_map] at ht
    exact ht.trans (bif_stepF (decide_eq_false (by omega)) rfl)
theorem pts_len : ∀ ss : List Sp, (pts ss).length = 2 * ss.length
  | [] => rfl
  | s :: ss => by
    have := pts_len ss
    simp only [pts, List.flatMap_cons, List.length_append, List.length_cons, List.length_nil] at this ⊢
    omega
theorem pts_get : ∀ (ss : List Sp) (i : Nat) (h : i < (pts ss).length) (h2 : i / 2 < ss.length), (pts ss)[i] = if i % 2 = 1 then (ss[i / 2]).hi else (ss[i / 2]).lo
  | [], i, h, h2 => by simp at h2
  | s :: ss, 0, h, h2 => rfl
  | s :: ss, 1, h, h2 => rfl
  | s :: ss, i + 2, h, h2 => by
    have hl : i < (pts ss).length := by
      have e : pts (s :: ss) = s.lo :: s.hi :: pts ss := rfl
      rw [e] at h; simpa using h
    have e1 : (i + 2) / 2 = i / 2 + 1 := by omega
    have e2 : (i + 2) % 2 = i % 2 := by omega
    have ih := pts_get ss i hl (by rw [pts_len] at hl; omega)
    have ep : (pts (s :: ss))[i + 2] = (pts ss)[i] := rfl
    rw [ep, ih]
    simp only [e1, e2, List.getElem_cons_succ]
theorem rf_runs {nl : Option Bool} {cl : Bool} {ss : List Sp} (hs : ss.length ≤ 64) (hok : spOK 3 (ss.map spI) = true) (hss : sps (ss.map spI) = ss) :
    EachOK Try.prog hint (acall Try.prog hint (ovrOf reTab)) 0 (hint.kp 15) (loopAt Try.prog 15 250) (Sx 15 (rfV nl cl (ss.map spI) 0 0 false ((0 : Nat) : Int)) []) (.exit 2)
      (fun w : Tr => Sx 15 (rfV nl cl (ss.map spI) w.lo w.hi w.fd ((pts ss).length : Int)) []) (foldE (fun (_ : Nat) w x => (Sum.inl (trStep ss w x) : Tr ⊕ (Ex × St))) 0 ⟨0, 0, false⟩ (pts ss)) := by
  have hpl := pts_len ss
  refine runs_each (X := Tr) (l := pts ss) (n := 30) (ls := fun _ _ => none) loops_none inner0 (fun i w => Sx 15 (rfV nl cl (ss.map spI) w.lo w.hi w.fd (i : Int)) []) _
    (fun _ _ => True) (by simp) ?_ ?_ (pts ss).length 0 ⟨0, 0, false⟩ (by omega) trivial
  · rintro i ⟨lo, hi, fd⟩ hi' _
    have h2 : i / 2 < ss.length := by omega
    have ht := rf_in nl cl (ss.map spI) lo hi i fd spOK (fun l x => ((cov (sps l) x : Nat) : Int))
    have q1 : ((i : Nat) : Int).tdiv 2 = ((i / 2 : Nat) : Int) := rfl
    have q2 : ((i : Nat) : Int).tmod 2 = ((i % 2 : Nat) : Int) := rfl
    rw [q1, q2, wi_nat (by omega), nth_sp h2, lo_at, hi_at, List.length_map, wadd1 (by omega), hss] at ht
    have e0 : ∀ a : Int, Im.intOf (IV.int .i64 a) = a := fun _ => rfl
    simp only [e0] at ht
    rw [show (2 : Int) * (ss.length : Int) = ((2 * ss.length : Nat) : Int) by omega, wi_nat (by omega)] at ht
    have hg := pts_get ss i hi' h2
    refine .inl ⟨_, rfl, ?_, trivial⟩
    rw [hg]
    generalize ss[i / 2] = s at *
    have hd : True ∧ (0 : Int) ≤ ((i / 2 : Nat) : Int) ∧ ((i / 2 : Nat) : Int) < (ss.length : Int) := ⟨trivial, by omega, by omega⟩
    replace ht := fun r h => ht.trans (bif_step (r := r) (decide_eq_true (by omega)) (bif_step (decide_eq_true hd) (bif_step rfl h)))
    have hcl := cov_le ss s.lo
    have hch := cov_le ss s.hi
    rw [show (2 : Int) * ((cov ss s.lo : Nat) : Int) = ((2 * cov ss s.lo : Nat) : Int) by omega, wi_nat (a := 2 * cov ss s.lo) (by omega), show (2 : Int) * ((cov ss s.hi : Nat) : Int) = ((2 * cov ss s.hi : Nat) : Int) by omega, wi_nat (a := 2 * cov ss s.hi) (by omega)] at ht
    have key : ∀ x : Int, ∀ (A B C D E : Option (Ex × St)), A = some (.normal, Sx 15 (rfV nl cl (ss.map spI) lo hi fd ((i + 1 : Nat) : Int)) []) →
        B = some (.normal, Sx 15 (rfV nl cl (ss.map spI) x x true ((i + 1 : Nat) : Int)) []) → C = some (.normal, Sx 15 (rfV nl cl (ss.map spI) x hi true ((i + 1 : Nat) : Int)) []) →
        D = some (.normal, Sx 15 (rfV nl cl (ss.map spI) lo x true ((i + 1 : Nat) : Int)) []) → E = some (.normal, Sx 15 (rfV nl cl (ss.map spI) lo hi true ((i + 1 : Nat) : Int)) []) →
        (bif decide (((2 * cov ss x : Nat) : Int) ≤ (ss.length : Int)) then A else bif (bif !fd then true else decide (x < lo)) then (bif (bif !fd then true else decide (x > hi)) then B else C) else (bif (bif !fd then true else decide (x > hi)) then D else E)) =
        some (.normal, Sx 15 (rfV nl cl (ss.map spI) (trStep ss ⟨lo, hi, fd⟩ x).lo (trStep ss ⟨lo, hi, fd⟩ x).hi (trStep ss ⟨lo, hi, fd⟩ x).fd ((i + 1 : Nat) : Int)) []) := by
      rintro x A B C D E rfl rfl rfl rfl rfl
      unfold trStep
      by_cases hc : 2 * cov ss x ≤ ss.length
      · rw [if_pos hc, decide_eq_true (show ((2 * cov ss x : Nat) : Int) ≤ (ss.length : Int) by omega)]; rfl
      · rw [if_neg hc, decide_eq_false (show ¬ ((2 * cov ss x : Nat) : Int) ≤ (ss.length : Int) by omega), cond_false]
        dsimp only
        cases fd
        · rw [if_pos (.inl rfl), if_pos (.inl rfl)]; rfl
        · simp only [reduceCtorEq, false_or, Bool.not_true, cond_false]
          by_cases g1 : x < lo
          · rw [if_pos g1, decide_eq_true g1, cond_true]
            by_cases g2 : x > hi
            · rw [if_pos g2, decide_eq_true g2]; rfl
            · rw [if_neg g2, decide_eq_false g2]; rfl
          · rw [if_neg g1, decide_eq_false g1, cond_false]
            by_cases g2 : x > hi
            · rw [if_pos g2, decide_eq_true g2]; rfl
            · rw [if_neg g2, decide_eq_false g2]; rfl
    by_cases hm : i % 2 = 1
    · rw [if_pos hm]
      exact ht _ (bif_step (by rw [hm]; rfl) (bif_step (decide_eq_true hd) (bif_step rfl (bif_step hok (key s.hi _ _ _ _ _ (by unfold rfV; rw [List.length_map]) (by unfold rfV; rw [List.length_map]) (by unfold rfV; rw [List.length_map]) (by unfold rfV; rw [List.length_map]) (by unfold rfV; rw [List.length_map]))))))
    · rw [if_neg hm]
      exact ht _ (bif_stepF (by rw [show i % 2 = 0 by omega]; rfl) (bif_step hok (key s.lo _ _ _ _ _ (by unfold rfV; rw [List.length_map]) (by unfold rfV; rw [List.length_map]) (by unfold rfV; rw [List.length_map]) (by unfold rfV; rw [List.length_map]) (by unfold rfV; rw [List.length_map]))))
  · rintro ⟨lo, hi, fd⟩ _
    have ht := rf_in nl cl (ss.map spI) lo hi (pts ss).length fd spOK (fun l x => ((cov (sps l) x : Nat) : Int))
    rw [List.length_map, show (2 : Int) * (ss.length : Int) = ((2 * ss.length : Nat) : Int) by omega, wi_nat (by omega)] at ht
    refine ht.trans (bif_stepF (decide_eq_false (by omega)) ?_)
    unfold rfV
    rw [List.length_map]
end
end Go.Proofs.Ytfcedalbamafiaa
