/- The document's reading: the whole call. It bears no condition. -/
import Derived.Test.YtgbddcdpbgaojaaBbH
import Derived.Test.YtgbddcdpbgaojaaBaH
namespace Go.Proofs.Ytgbddcdpbgaojaa
open Go Go.Im
set_option linter.unusedVariables false
set_option linter.unusedSimpArgs false
set_option maxRecDepth 20000
noncomputable section

def q1 (l : List IV) (k : Int) (es : List IV) : Bool := decide (48 ≤ l.length ∧ l.length ≤ 8192 ∧ k = 48 ∧ es.length = 0) && (okB l && (rdR l).1)
def q2 (l : List IV) (k : Int) (es : List IV) : Bool := decide (48 ≤ l.length ∧ l.length ≤ 8192 ∧ k = 48 ∧ es.length = 0) && (okB l && !(rdR l).1)
def qK (l : List IV) : Int := (rdN l : Int)
def qE (l : List IV) : List IV := (rdR l).2.2
theorem rq_ls : LoopsOK Try.prog hint NQ (ltab [(34, 65532, LF 34 0 (rqL q1 q2 qK qE))]) := by
  refine ltab_cons (by kernel_rfl) (loopF_ok ?_) ltab_nil
  intro vs bx e vs' bx' h
  unfold rqL at h
  split at h
  case h_2 => cases h
  rename_i l k le' ve' mo' st' po' pr' de' di' ri' rf' og' rc' xm' n1' d1' z1' es' ha' ky' n2' c2' z2' su' le ve mo st po pr de di ri rf og rc xm ha ky n2 c2 z2 su es
  simp only [List.mem_cons, List.not_mem_nil, or_false, Prod.mk.injEq, Bool.true_eq] at h
  have main : ∀ b, (decide (48 ≤ l.length ∧ l.length ≤ 8192 ∧ k = 48 ∧ es.length = 0) && (okB l && b)) = true → k = 48 ∧ es = [] ∧ b = true ∧ ∀ q p, Runs Try.prog hint NQ 0 (hint.kp 34) (loopAt Try.prog 34 65532) (Sx 34 (rqV l 48) (rqB q p [] 0 0)) (rdE ((rdR l).1, rdN l, (rdR l).2.2)) (rqE q p l ((rdR l).1, rdN l, (rdR l).2.2)) := fun b h1 => by
    simp only [Bool.and_eq_true, decide_eq_true_eq] at h1
    obtain ⟨⟨a1, a2, a3, a4⟩, a5, a6⟩ := h1
    exact ⟨a3, List.length_eq_zero_iff.1 a4, a6, fun q p => rq_runs (q := q) (p := p) a2 a5 9 48 [] (by omega) (by simp) (by simp)⟩
  rcases h with ⟨h1, rfl, rfl, rfl⟩ | ⟨h1, rfl, rfl, rfl⟩
  · obtain ⟨rfl, rfl, a5, q⟩ := main _ h1
    have q := q ⟨le', ve', mo', st', po', pr', de', di', ri', rf', og', rc', xm', n1', d1', z1', es', ha', ky', n2', c2', z2', su'⟩ ⟨le, ve, mo, st, po, pr, de, di, ri, rf, og, rc, xm, none, false, 0, [], ha, ky, n2, c2, z2, su⟩
    rw [a5] at q
    exact q
  · obtain ⟨rfl, rfl, a5, q⟩ := main _ h1
    have q := q ⟨le', ve', mo', st', po', pr', de', di', ri', rf', og', rc', xm', n1', d1', z1', es', ha', ky', n2', c2', z2', su'⟩ ⟨le, ve, mo, st, po, pr, de, di, ri, rf, og, rc, xm, none, false, 0, [], ha, ky, n2, c2, z2, su⟩
    rw [show (rdR l).1 = false by simpa using a5] at q
    exact q
theorem rq_each {l : List IV} (hl : l.length ≤ 100000) (ho : okB l = true) : 
    ∃ n v0 T2 v1 fr, callK Try.prog hint rqT' (ltab [(34, 65532, LF 34 0 (rqL q1 q2 qK qE))]) n 34 [.fsl none false 1 l] [] (fun v T => some (v, T)) = some (v0, T2) ∧ frz T2 v0 = some (v1, fr) ∧ Wk v1 (rdV1 l) := by
  have early : ∀ a b, rdA l = some (a, b) → callK Try.prog hint rqT' (ltab [(34, 65532, LF 34 0 (rqL q1 q2 qK qE))]) 30 34 [.fsl none false 1 l] [] (fun v T => some (v, T)) = some (failV a b, []) → 
      ∃ n v0 T2 v1 fr, callK Try.prog hint rqT' (ltab [(34, 65532, LF 34 0 (rqL q1 q2 qK qE))]) n 34 [.fsl none false 1 l] [] (fun v T => some (v, T)) = some (v0, T2) ∧ frz T2 v0 = some (v1, fr) ∧ Wk v1 (rdV1 l) :=
    fun a b hA hC => ⟨30, _, _, failV a b, [], hC, rfl, wkFail hA⟩
  have hx := rq_all l getFC getFG oC oX oN oK q1 q2 qK qE
  by_cases c1 : 8192 < l.length
  · exact early 0 2 (by rw [rdA, decide_eq_true c1]; rfl) (hx.trans (bif_step (decide_eq_true (by omega)) rfl))
  replace hx := fun r h => hx.trans (bif_stepF (r := r) (decide_eq_false (by omega)) h)
  by_cases c2 : l.length < 48
  · exact early (l.length : Int) 72 (by rw [rdA, decide_eq_false c1, decide_eq_true c2]; rfl) (hx _ (bif_step (decide_eq_true (by omega)) rfl))
  replace hx := fun r h => hx _ (bif_stepF (r := r) (decide_eq_false (by omega)) h)
  have i0 := isOf_nth ho (i := 0) (by omega)
  have i1 := isOf_nth ho (i := 1) (by omega)
  have i2 := isOf_nth ho (i := 2) (by omega)
  have i3 := isOf_nth ho (i := 3) (by omega)
  have gc : ∀ a b, a ≤ 8 → getFC (List.take a (List.drop b l)) = true := by
    intro a b ha
    simp only [getFC, okB_take (okB_drop ho b), Bool.and_true, decide_eq_true_eq, List.length_take]; omega
  replace hx := fun r h => hx _ (bif_step (r := r) (decide_eq_true ⟨rfl, by omega, by omega⟩) (bif_step i0 (bif_step (decide_eq_true ⟨rfl, by omega, by omega⟩) (bif_step i0 (bif_step (decide_eq_true ⟨rfl, by omega, by omega⟩) (bif_step i0 h))))))
  replace hx := fun r h => hx _ (bif_step (r := r) (decide_eq_true ⟨rfl, by omega, by omega⟩) (bif_step i1 (bif_step (decide_eq_true ⟨rfl, by omega, by omega⟩) (bif_step i2 (bif_step (decide_eq_true ⟨rfl, by omega, by omega⟩) (bif_step i3 h))))))
  obtain ⟨b1, b2, b3, _⟩ := hq_at ho (i := 0) (by omega)
  obtain ⟨_, _, _, b4⟩ := hq_at ho (i := 3) (by omega)
  have pve : (hdP getFG l).ve = (IntKind.i64.wrap ((IntKind.i64.wrap (byI l 0)).tdiv 8)).tmod 8 := b2.symm
  have pmo : (hdP getFG l).mo = (IntKind.i64.wrap (byI l 0)).tmod 8 := b3.symm
  have pst : (hdP getFG l).st = IntKind.i64.wrap (byI l 1) := rfl
  have ppo : (hdP getFG l).po = IntKind.i64.wrap (byI l 2) := rfl
  have ple : (hdP getFG l).le = IntKind.i64.wrap ((IntKind.i64.wrap (byI l 0)).tdiv 64) := b1.symm
  have ppr : (hdP getFG l).pr = if IntKind.i64.wrap (byI l 3) > 127 then IntKind.i64.wrap (IntKind.i64.wrap (byI l 3) - 256) else IntKind.i64.wrap (byI l 3) := b4
  have hN : rdN l ≤ l.length := rdL_le 9 48 [] (by omega)
  have c48 : ∀ k : Int, k = 48 → (48 ≤ l.length ∧ l.length ≤ 8192 ∧ k = 48 ∧ ([] : List IV).length = 0) := fun k hk => ⟨by omega, by omega, hk, rfl⟩
  have hqK : qK l = (rdN l : Int) := rfl
  rw [hqK, wsub' hN (by omega), wadd4 (by omega)] at hx
  by_cases cp : IntKind.i64.wrap (byI l 3) > 127
  all_goals
    first
    | replace hx := fun r h => hx _ (bif_step (r := r) (decide_eq_true cp) h)
      rw [if_pos cp] at ppr
      rw [← ppr, ← pve, ← pmo, ← pst, ← ppo, ← ple] at hx
    | replace hx := fun r h => hx _ (bif_stepF (r := r) (decide_eq_false cp) h)
      rw [if_neg cp] at ppr
      rw [← ppr, ← pve, ← pmo, ← pst, ← ppo, ← ple] at hx
    clear pve pmo pst ppo ple ppr b1 b2 b3 b4 cp
  all_goals
    by_cases v4 : (hdP getFG l).ve = 4
    case neg =>
      have hb : headBad l = true := by unfold headBad; rw [bne_iff_ne.2 v4]; rfl
      exact early 0 100 (by rw [rdA, decide_eq_false c1, decide_eq_false c2, hb]; rfl) (hx _ (bif_stepF (by rw [bne_iff_ne.2 v4]; rfl) rfl))
    have v4' : ((hdP getFG l).ve != 4) = false := by rw [v4]; rfl
    replace hx := fun r h => hx _ (bif_step (r := r) (by rw [v4']; rfl) h)
    by_cases m5 : 1 ≤ (hdP getFG l).mo ∧ (hdP getFG l).mo ≤ 5
    case neg =>
      have hb : headBad l = true := by
        unfold headBad
        rw [v4', cond_false]
        by_cases m1 : (hdP getFG l).mo < 1
        · rw [decide_eq_true m1]; rfl
        · rw [decide_eq_false m1, cond_false]; exact decide_eq_true (by omega)
      refine early 0 100 (by rw [rdA, decide_eq_false c1, decide_eq_false c2, hb]; rfl) (hx _ (bif_step ?_ rfl))
      simp only [cond_false, Bool.not_eq_true', Bool.and_eq_false_iff, decide_eq_false_iff_not]
      omega
    have c3 : headBad l = false := by
      unfold headBad
      rw [v4', cond_false, decide_eq_false (by omega), cond_false]
      exact decide_eq_false (by omega)
    replace hx := fun r h => hx _ (bif_stepF (r := r) (by rw [decide_eq_true m5.1, decide_eq_true m5.2]; rfl) h)
    by_cases c4 : (hdP getFG l).st > 16
    · exact early 1 100 (by rw [rdA, decide_eq_false c1, decide_eq_false c2, c3, decide_eq_true c4]; rfl) (hx _ (bif_step (decide_eq_true c4) rfl))
    replace hx := fun r h => hx _ (bif_stepF (r := r) (decide_eq_false c4) h)
    by_cases c5 : (hdP getFG l).po > 17
    · exact early 2 100 (by rw [rdA, decide_eq_false c1, decide_eq_false c2, c3, decide_eq_false c4, decide_eq_true c5]; rfl) (hx _ (bif_step (decide_eq_true c5) rfl))
    replace hx := fun r h => hx _ (bif_stepF (r := r) (decide_eq_false c5) h)
    replace hx := fun r h => hx _ (bif_step (r := r) (decide_eq_true (by omega)) (bif_step (gc 4 4 (by omega)) (bif_step (decide_eq_true (by omega)) (bif_step (gc 4 8 (by omega)) (bif_step (decide_eq_true (by omega)) (bif_step (gc 4 12 (by omega)) h))))))
    replace hx := fun r h => hx _ (bif_step (r := r) (decide_eq_true (by omega)) (bif_step (gc 8 16 (by omega)) (bif_step (decide_eq_true (by omega)) (bif_step (gc 8 24 (by omega)) (bif_step (decide_eq_true (by omega)) (bif_step (gc 8 32 (by omega)) (bif_step (decide_eq_true (by omega)) (bif_step (gc 8 40 (by omega)) h))))))))
    cases c6 : (rdR l).1
    · have hq1 : q1 l 48 [] = false := by unfold q1; rw [c6, ho]; simp
      have hq2 : q2 l 48 [] = true := by unfold q2; rw [c6, ho, decide_eq_true (c48 48 rfl)]; rfl
      exact early (rdN l : Int) 101 (by rw [rdA, decide_eq_false c1, decide_eq_false c2, c3, decide_eq_false c4, decide_eq_false c5, c6]; rfl) (hx _ (bif_stepF hq1 (bif_step hq2 rfl)))
    have hq1 : q1 l 48 [] = true := by unfold q1; rw [c6, ho, decide_eq_true (c48 48 rfl)]; rfl
    replace hx := fun r h => hx _ (bif_step (r := r) hq1 h)
    have hA : restBad l = false → rdA l = none := fun h => by rw [rdA, decide_eq_false c1, decide_eq_false c2, c3, decide_eq_false c4, decide_eq_false c5, c6, h]; rfl
    by_cases dr : l.length - rdN l ≠ 0 ∧ l.length - rdN l ≠ 4 ∧ l.length - rdN l ≠ 20
    · refine early (rdN l : Int) 102 (by rw [rdA, decide_eq_false c1, decide_eq_false c2, c3, decide_eq_false c4, decide_eq_false c5, c6, show restBad l = true from decide_eq_true dr]; rfl) (hx _ (bif_step ?_ rfl))
      rw [show (((l.length - rdN l : Nat) : Int) != 0) = true from bne_iff_ne.2 (by omega), show (((l.length - rdN l : Nat) : Int) != 4) = true from bne_iff_ne.2 (by omega), show (((l.length - rdN l : Nat) : Int) != 20) = true from bne_iff_ne.2 (by omega)]
      rfl
    have hA := hA (decide_eq_false dr)
    replace hx := fun r h => hx _ (bif_stepF (r := r) (by
      rcases (show l.length - rdN l = 0 ∨ l.length - rdN l = 4 ∨ l.length - rdN l = 20 by omega) with h | h | h <;> rw [h] <;> rfl) h)
    by_cases d0 : l.length - rdN l = 0
    · refine ⟨30, _, _, _, [0], hx _ (bif_stepF (decide_eq_false (by omega)) rfl), rfl, ?_⟩
      unfold rdV1 rdPk rdK rdFa rdFc
      rw [hA]
      unfold okPk
      rw [decide_eq_false (show ¬ (l.length - rdN l ≠ 0) by omega)]
      exact wkPk (.inl rfl) (.inr rfl)
    · have hgt : getFC (List.take ((((rdN l + 4 : Nat) : Int)).toNat - ((rdN l : Int)).toNat) (List.drop ((rdN l : Int)).toNat l)) = true := by
        rw [Int.toNat_natCast, Int.toNat_natCast]; exact gc _ _ (by omega)
      refine ⟨30, _, _, _, [0, 1], hx _ (bif_step (decide_eq_true (by omega)) (bif_step (decide_eq_true ⟨by omega, by omega, by omega⟩) (bif_step hgt (bif_step (decide_eq_true ⟨by omega, by omega, by omega⟩) (bif_step (decide_eq_true ?_) rfl))))), rfl, ?_⟩
      · refine ⟨.inr rfl, .inl rfl, ?_, ?_⟩
        · rw [roomB_nat, List.length_take, List.length_drop, Int.toNat_natCast, Int.toNat_natCast]; omega
        · rw [maxLen_val, List.length_take, List.length_drop, Int.toNat_natCast, Int.toNat_natCast]; omega
      · unfold rdV1 rdPk rdK rdFa rdFc
        rw [hA]
        unfold okPk
        rw [decide_eq_true d0]
        simp only [Int.toNat_natCast, Nat.add_sub_cancel_left, List.nil_append]
        rw [List.take_of_length_le (l := List.drop (rdN l + 4) l) (by simp)]
        exact wkPk (.inl rfl) (.inl rfl)
theorem rread_known : Known Try.prog hint 34 (rd8P rowB rdPk rdK rdFa rdFc) := by
  rw [← rd8_eq]
  refine known_frz fits ?_
  intro xs T v T1 h
  unfold rdP at h
  split at h
  case h_2 => cases h
  rename_i nl cl z l
  simp only [List.mem_cons, List.not_mem_nil, or_false, Prod.mk.injEq, Bool.true_eq, rowB, Bool.and_eq_true, decide_eq_true_eq] at h
  obtain ⟨⟨⟨rfl, hl⟩, ho⟩, rfl, rfl⟩ := h
  refine ⟨rfl, rfl, [[.fsl none false 1 l]], by simp, Splits.wk (WkL.cons (Wk.fsl rfl (.inl rfl) (by simp) (.inl rfl)) WkL.nil), fun ys hy => ?_⟩
  rw [List.mem_singleton] at hy
  subst hy
  exact ⟨noGd_of rfl, _, _, rqT_ok, rq_ls, rq_each hl ho⟩
end
end Go.Proofs.Ytgbddcdpbgaojaa
