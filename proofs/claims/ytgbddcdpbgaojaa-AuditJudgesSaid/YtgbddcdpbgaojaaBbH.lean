/- The document's reading: what is proved of the given program. It bears no condition. -/
import Derived.Test.YtgbddcdpbgaojaaBbG
namespace Go.Proofs.Ytgbddcdpbgaojaa
open Go Go.Im
set_option linter.unusedVariables false
set_option linter.unusedSimpArgs false
set_option maxRecDepth 20000
noncomputable section

/-! ### Fields -/
theorem lnN_pN (l : List IV) (k : Nat) : lnN l k = pN (l.drop k) := by
  unfold lnN pN
  rw [List.drop_drop]
theorem fldR_pN (l : List IV) (k : Nat) : fldR l k = (l.drop k).take (pN (l.drop k)) := by
  unfold fldR
  rw [lnN_pN]
theorem oK_fwd {l : List IV} {k : Nat} (ho : okB l = true) (hl : l.length ≤ 100000) (hk : k ≤ l.length) (h : oK l (k : Int) = true) :
    lenBad l k = false ∧ okR (fldR l k) = true ∧ oX l (k : Int) = xR (fldR l k) ∧ oN l (k : Int) = (lnN l k : Int) := by
  have eX : oX l (k : Int) = bif reB (l.drop k) then pX (l.drop k) else zX := rfl
  have eN : oN l (k : Int) = bif reB (l.drop k) then (pN (l.drop k) : Int) else 0 := rfl
  have eK : oK l (k : Int) = bif reB (l.drop k) then (bif decide (0 < pA (l.drop k)) then toBytes (fieldL (pX (l.drop k))) == toBytes ((l.drop k).take (pN (l.drop k))) else false) else false := rfl
  rw [eK] at h
  cases hre : reB (l.drop k)
  · rw [hre] at h; cases h
  rw [hre, cond_true] at h
  rw [eX, eN, hre, cond_true, cond_true]
  by_cases ca : 0 < pA (l.drop k)
  case neg => rw [decide_eq_false ca] at h; cases h
  rw [decide_eq_true ca, cond_true, beq_iff_eq] at h
  obtain ⟨h1, h2⟩ := @of_decide_eq_true _ (Classical.propDecidable _) hre
  have hLo : okB (l.drop k) = true := okB_drop ho k
  have hg := (pX_good hLo h1 h2 ca).1
  have hpo := pX_ok hLo (by rw [List.length_drop]; omega)
  have he := bytes_inj (okB_field hpo hg) (okB_take hLo _) h
  obtain ⟨q1, q2, q3⟩ := one_fwd hLo h1 h2 ca he
  rw [fldR_pN, lnN_pN]
  refine ⟨?_, q1, q2.symm, rfl⟩
  unfold lenBad
  rw [lnN_pN]
  obtain ⟨k1, k2, k3, _⟩ := h1
  rw [List.length_drop] at k1 k3
  exact decide_eq_false (by omega)
theorem oK_bwd {l : List IV} {k : Nat} (ho : okB l = true) (hl : l.length ≤ 100000) (hk : k ≤ l.length) (h1 : lenBad l k = false) (h2 : okR (fldR l k) = true) : oK l (k : Int) = true := by
  have eK : oK l (k : Int) = bif reB (l.drop k) then (bif decide (0 < pA (l.drop k)) then toBytes (fieldL (pX (l.drop k))) == toBytes ((l.drop k).take (pN (l.drop k))) else false) else false := rfl
  unfold lenBad at h1
  rw [lnN_pN] at h1
  have h3 := of_decide_eq_false h1
  rw [fldR_pN] at h2
  obtain ⟨q1, q2, q3, q4, _⟩ := one_bwd (okB_drop ho k) (by rw [List.length_drop]; omega) (by omega) (by rw [List.length_drop]; omega) h2
  rw [eK, show reB (l.drop k) = true from @decide_eq_true _ (Classical.propDecidable _) ⟨q1, q2⟩, cond_true, decide_eq_true q3, cond_true, q4]
  exact beq_self_eq_true _
theorem bad_one {l : List IV} {k : Nat} (ho : okB l = true) (hl : l.length ≤ 100000) (hk : k ≤ l.length) (es : List IV) :
    badK l k es = (bif !oK l (k : Int) then true else (es.length : Int) == (8 : Int)) := by
  have e8 : ((es.length : Int) == (8 : Int)) = decide (es.length = 8) := by
    by_cases h : es.length = 8
    · rw [decide_eq_true h, beq_iff_eq]; omega
    · rw [decide_eq_false h, beq_eq_false_iff_ne]; omega
  rw [e8]
  unfold badK
  cases h1 : oK l (k : Int)
  · rw [Bool.not_false, cond_true]
    cases h2 : lenBad l k
    · cases h3 : okR (fldR l k)
      · cases decide (es.length = 8) <;> rfl
      · rw [oK_bwd ho hl hk h2 h3] at h1; cases h1
    · rfl
  · obtain ⟨h2, h3, _⟩ := oK_fwd ho hl hk h1
    rw [h2, h3]
    cases decide (es.length = 8) <;> rfl

/-! ### The loop -/
abbrev rqT' : FuncId → Option SpecF := rqT getFC getFG oC oX oN oK
theorem rqT_ok : ∀ f F, rqT' f = some F → Known Try.prog hint f F := tab_cons btw_known (tab_cons num_known (tab_cons one_known tab_nil))
abbrev NQ : Nat → CallF := acall Try.prog hint (ovrOf rqT')
def rqE (q p : PK) (l : List IV) (r : Bool × Nat × List IV) : St := match r.1 with
  | true => Sx 34 (rqV l (r.2.1 : Int)) (rqB q p r.2.2 0 0)
  | false => Sx 34 (rqV l (r.2.1 : Int)) (rqB zPK p r.2.2 (r.2.1 : Int) 101)
theorem rq_runs {q p : PK} {l : List IV} (hl : l.length ≤ 8192) (ho : okB l = true) : ∀ (f k : Nat) (es : List IV), k ≤ l.length → es.length ≤ 8 → 9 ≤ f + es.length →
    Runs Try.prog hint NQ 0 (hint.kp 34) (loopAt Try.prog 34 65532) (Sx 34 (rqV l (k : Int)) (rqB q p es 0 0)) (rdE (rdL l f k es)) (rqE q p l (rdL l f k es))
  | 0, k, es, hk, h8, h9 => by omega
  | f + 1, k, es, hk, h8, h9 => by
    have ht := rq_in q p l es (k : Int) getFC getFG oC oX oN oK
    have hm := lnN_lt l k
    rw [wsub' hk (by omega)] at ht
    unfold rdL
    by_cases c1 : l.length ≤ k + 20
    · rw [decide_eq_true c1, cond_true]
      exact Runs.last (n := 30) (ls := fun _ _ => none) loops_none inner0 (by simp [rdE]) (ht.trans (bif_stepF (decide_eq_false (by omega)) rfl))
    rw [decide_eq_false c1, cond_false]
    have hoC : oC l (k : Int) = true := by unfold oC; rw [ho, decide_eq_true (by omega)]; rfl
    replace ht := fun r h => ht.trans (bif_step (r := r) (decide_eq_true (by omega)) (bif_step hoC h))
    rw [← bad_one ho (by omega) hk es] at ht
    cases c2 : badK l k es
    · rw [c2] at ht
      have c3 := c2
      rw [bad_one ho (by omega) hk es] at c3
      have hok : oK l (k : Int) = true := by
        cases h : oK l (k : Int)
        · rw [h] at c3; cases c3
        · rfl
      have h8' : es.length ≠ 8 := fun h => by rw [hok, h] at c3; cases c3
      obtain ⟨k1, k2, k3, k4⟩ := oK_fwd ho (by omega) hk hok
      have hlb := k1
      unfold lenBad at hlb
      have hlb := of_decide_eq_false hlb
      rw [k3, k4, wadd (by omega)] at ht
      refine Runs.step (n := 30) (ls := fun _ _ => none) loops_none inner0 (ht _ (bif_stepF rfl (bif_step (decide_eq_true ?_) ?_))) (rq_runs hl ho f (k + lnN l k) (es ++ [(xR (fldR l k)).iv]) (by omega) (by simp; omega) (by simp; omega))
      · simp only [List.length_cons, List.length_nil, roomB_nat, maxLen_val]; omega
      · rfl
    · rw [c2] at ht
      exact Runs.last (n := 30) (ls := fun _ _ => none) loops_none inner0 (by simp [rdE]) (ht _ (bif_step rfl rfl))

/-! ### The head -/
theorem hq0 : ∀ n : Fin 256, IntKind.i64.wrap ((IntKind.i64.wrap ((n.val : Nat) : Int)).tdiv 64) = IntKind.i64.wrap ((((n.val : Nat) : Int)).fdiv ((2 : Int) ^ (6 : Nat))) ∧
    (IntKind.i64.wrap ((IntKind.i64.wrap ((n.val : Nat) : Int)).tdiv 8)).tmod 8 = IntKind.i64.wrap (ibits .and .u8 ((((n.val : Nat) : Int)).fdiv ((2 : Int) ^ (3 : Nat))) 7) ∧
    (IntKind.i64.wrap ((n.val : Nat) : Int)).tmod 8 = IntKind.i64.wrap (ibits .and .u8 (((n.val : Nat) : Int)) 7) ∧
    (IntKind.i64.wrap (IntKind.i8.wrap ((n.val : Nat) : Int)) = if IntKind.i64.wrap ((n.val : Nat) : Int) > 127 then IntKind.i64.wrap (IntKind.i64.wrap ((n.val : Nat) : Int) - 256) else IntKind.i64.wrap ((n.val : Nat) : Int)) := by decide +kernel
theorem hq_at {l : List IV} (ho : okB l = true) {i : Nat} (hi : i < l.length) : IntKind.i64.wrap ((IntKind.i64.wrap (byI l i)).tdiv 64) = IntKind.i64.wrap ((byI l i).fdiv ((2 : Int) ^ (6 : Nat))) ∧
    (IntKind.i64.wrap ((IntKind.i64.wrap (byI l i)).tdiv 8)).tmod 8 = IntKind.i64.wrap (ibits .and .u8 ((byI l i).fdiv ((2 : Int) ^ (3 : Nat))) 7) ∧
    (IntKind.i64.wrap (byI l i)).tmod 8 = IntKind.i64.wrap (ibits .and .u8 (byI l i) 7) ∧
    (IntKind.i64.wrap (IntKind.i8.wrap (byI l i)) = if IntKind.i64.wrap (byI l i) > 127 then IntKind.i64.wrap (IntKind.i64.wrap (byI l i) - 256) else IntKind.i64.wrap (byI l i)) := by
  obtain ⟨_, h1, h2⟩ := byI_eq ho hi
  have := hq0 ⟨(byI l i).toNat, by omega⟩
  simp only [Int.toNat_of_nonneg h1] at this
  exact this
end
end Go.Proofs.Ytgbddcdpbgaojaa
