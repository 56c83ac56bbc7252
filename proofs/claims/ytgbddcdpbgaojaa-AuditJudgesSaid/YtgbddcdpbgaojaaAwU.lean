/- The fields of a packet are gone through: what is proved of the given program. It bears no condition. -/
import Derived.Test.YtgbddcdpbgaojaaAwV
namespace Go.Proofs.Ytgbddcdpbgaojaa
open Go Go.Im
set_option linter.unusedVariables false
set_option linter.unusedSimpArgs false
set_option maxRecDepth 20000
noncomputable section

/-- How many bytes a field has, as it says. -/
def lnN (l : List IV) (k : Nat) : Nat := numL (toBytes ((l.drop (k + 2)).take 2))
def fldR (l : List IV) (k : Nat) : List IV := (l.drop k).take (lnN l k)
def lenBad (l : List IV) (k : Nat) : Bool := decide (l.length < k + 24 ∨ lnN l k < 24 ∨ lnN l k % 4 ≠ 0 ∨ l.length < k + lnN l k)
def badK (l : List IV) (k : Nat) (es : List IV) : Bool := bif lenBad l k then true else bif decide (es.length = 8) then true else !okR (fldR l k)
/-- The fields, from a place on: are they right, up to where, and which. -/
def rdL (l : List IV) : Nat → Nat → List IV → Bool × Nat × List IV
  | 0, k, es => (false, k, es)
  | f + 1, k, es => bif decide (l.length ≤ k + 20) then (true, k, es) else bif badK l k es then (false, k, es) else rdL l f (k + lnN l k) (es ++ [(xR (fldR l k)).iv])
theorem lnN_lt (l : List IV) (k : Nat) : lnN l k < 65536 := by
  have := numL_lt (toBytes ((l.drop (k + 2)).take 2))
  rw [toBytes_len] at this
  have h4 : ((l.drop (k + 2)).take 2).length ≤ 2 := by simp; omega
  exact Nat.lt_of_lt_of_le this (Nat.pow_le_pow_right (by decide) h4)
theorem wadd2 {k : Nat} (h : k ≤ 100000) : IntKind.i64.wrap ((k : Int) + 2) = ((k + 2 : Nat) : Int) := by rw [wrap_i64]; omega
theorem wadd4 {k : Nat} (h : k ≤ 100000) : IntKind.i64.wrap ((k : Int) + 4) = ((k + 4 : Nat) : Int) := by rw [wrap_i64]; omega
theorem wsub' {n k : Nat} (h : k ≤ n) (h2 : n ≤ 100000) : IntKind.i64.wrap ((n : Int) - (k : Int)) = ((n - k : Nat) : Int) := by rw [wrap_i64]; omega
theorem rowN_nat {l : List IV} {k : Nat} (h : k ≤ 100000) : rowN (k : Int) l = (l.drop (k + 2)).take 2 := by
  unfold rowN
  rw [wadd2 h, wadd4 h, Int.toNat_natCast, Int.toNat_natCast, show k + 4 - (k + 2) = 2 by omega]
theorem numN_nat {l : List IV} {k : Nat} (h : k ≤ 100000) : numN getFG (k : Int) l = ((lnN l k : Nat) : Int) := by
  have := lnN_lt l k
  have e : getFG (rowN (k : Int) l) = ((lnN l k : Nat) : Int) := by rw [rowN_nat h]; rfl
  unfold numN
  rw [e, wi_nat (by omega)]
theorem rowX_nat {l : List IV} {k : Nat} (h : k ≤ 100000) : rowX getFG (k : Int) l = fldR l k := by
  have := lnN_lt l k
  unfold rowX
  rw [numN_nat h, wadd (by omega), Int.toNat_natCast, Int.toNat_natCast, show k + lnN l k - k = lnN l k by omega]
  rfl
theorem tmod_nat (n : Nat) : (((n : Nat) : Int).tmod 4 != 0) = decide (n % 4 ≠ 0) := by
  rw [Int.tmod_eq_emod_of_nonneg (by omega), Bool.eq_iff_iff]
  simp only [bne_iff_ne, decide_eq_true_eq]
  omega

abbrev reTab : FuncId → Option SpecF := tab [(42, getP getFC getFG), (44, frP frC xR okR), (45, cloneP cloneC)]
theorem reTab_ok : ∀ f F, reTab f = some F → Known Try.prog hint f F := tab_cons get_known (tab_cons fr_known (tab_cons clone_known tab_nil))
def rdE (r : Bool × Nat × List IV) : Ex := match r.1 with | true => .exit 0 | false => .ret
def rdT (p : PK) (l : List IV) (r : Bool × Nat × List IV) : List Blk := match r.1 with
  | true => itB p l r.2.2 (r.2.1 : Int) (r.2.1 : Int) 0 0 .ready
  | false => itB p l r.2.2 (r.2.1 : Int) (r.2.1 : Int) (r.2.1 : Int) 101 (.done .ret)
def rfOp : LItem → Operand | .rf f _ _ _ => f | _ => default
def rfPs : LItem → Array Tmp | .rf _ ps _ _ => ps | _ => default
def rfA : LItem → Code | .rf _ _ a _ => a | _ => .skip
def rfB : LItem → Code | .rf _ _ _ b => b | _ => .skip
def isRf : LItem → Bool | .rf .. => true | _ => false
theorem isRf_eq {x : LItem} (h : isRf x = true) : x = .rf (rfOp x) (rfPs x) (rfA x) (rfB x) := by cases x <;> first | rfl | cases h
abbrev rdI : LItem := itemAt Try.prog 36 8186
theorem rdI_eq : rdI = .rf (rfOp rdI) (rfPs rdI) (rfA rdI) (rfB rdI) := isRf_eq (by kernel_rfl)
abbrev rdRun (p : PK) (l : List IV) : Nat → St → Option (Ex × St) := runY Try.prog hint (acall Try.prog hint (ovrOf reTab)) 36 9 ((rdS p l [] 48 48 0 0).tm.map calm) (rfPs rdI).toList (rfA rdI) (rfB rdI) 10 48 2
theorem it_runs {p : PK} {l : List IV} (hl : l.length ≤ 8192) (ho : okB l = true) : ∀ (f k : Nat) (es : List IV), k ≤ l.length → es.length ≤ 8 → 9 ≤ f + es.length →
    RunsG (rdRun p l) 10 (hint.kp 48) (itS p l es k k 0 0 .ready) (rdE (rdL l f k es)) (Sx 48 itV (rdT p l (rdL l f k es)))
  | 0, k, es, hk, h8, h9 => by omega
  | f + 1, k, es, hk, h8, h9 => by
    have ht := it_in p l es [] (k : Int) (k : Int) 48 48 getFC getFG frC xR okR cloneC
    have hm := lnN_lt l k
    rw [rowN_nat (by omega), numN_nat (by omega), rowX_nat (by omega), wadd2 (by omega), wadd4 (by omega), wsub' hk (by omega), wadd (by omega), tmod_nat] at ht
    have step : ∀ {e : Ex} {s' : St}, roundIK Try.prog hint reTab (fun _ _ => none) 30 36 8186 9 ((rdS p l [] 48 48 0 0).tm.map calm) 10 48 2 (itS p l es k k 0 0 .ready) = some (e, s') → Rnd (rdRun p l) 10 (hint.kp 48) (itS p l es k k 0 0 .ready) e s' :=
      fun h => roundIK_run loops_none rdI_eq inner0 inner0 h
    unfold rdL
    by_cases c1 : l.length ≤ k + 20
    · rw [decide_eq_true c1, cond_true]
      exact RunsG.last (by simp [rdE]) (step (ht.trans (bif_stepF (decide_eq_false (by omega)) rfl)))
    rw [decide_eq_false c1, cond_false]
    replace ht := fun r h => ht.trans (bif_step (r := r) (decide_eq_true (by omega)) h)
    unfold badK lenBad
    by_cases c2 : l.length < k + 24
    · rw [decide_eq_true (.inl c2), cond_true, cond_true]
      exact RunsG.last (by simp [rdE]) (step (ht _ (bif_stepF (decide_eq_false (by omega)) rfl)))
    replace ht := fun r h => ht _ (bif_step (r := r) (decide_eq_true (by omega)) h)
    replace ht := fun r h => ht _ (bif_step (r := r) (decide_eq_true (by omega)) h)
    have hg : getFC ((l.drop (k + 2)).take 2) = true := by
      simp only [getFC, okB_take (okB_drop ho _), Bool.and_true, decide_eq_true_eq, List.length_take]; omega
    replace ht := fun r h => ht _ (bif_step (r := r) hg h)
    by_cases c3 : lnN l k < 24
    · rw [decide_eq_true (.inr (.inl c3)), cond_true, cond_true]
      exact RunsG.last (by simp [rdE]) (step (ht _ (bif_stepF (by rw [decide_eq_true (by omega)]; rfl) rfl)))
    replace ht := fun r h => ht _ (bif_step (r := r) (by rw [decide_eq_false (by omega)]; rfl) h)
    by_cases c4 : lnN l k % 4 ≠ 0 ∨ l.length < k + lnN l k
    · rw [decide_eq_true (.inr (.inr c4)), cond_true, cond_true]
      refine RunsG.last (by simp [rdE]) (step (ht _ (bif_step ?_ rfl)))
      rw [cond_false, Bool.cond_true_left, Bool.or_eq_true, decide_eq_true_eq, decide_eq_true_eq]
      rcases c4 with c4 | c4
      · exact .inl c4
      · exact .inr (by omega)
    rw [decide_eq_false (show ¬ (l.length < k + 24 ∨ lnN l k < 24 ∨ lnN l k % 4 ≠ 0 ∨ l.length < k + lnN l k) by omega), cond_false]
    replace ht := fun r h => ht _ (bif_stepF (r := r) (by
      rw [cond_false, Bool.cond_true_left, Bool.or_eq_false_iff, decide_eq_false_iff_not, decide_eq_false_iff_not]
      exact ⟨fun h => c4 (.inl h), by omega⟩) h)
    replace ht := fun r h => ht _ (bif_step (r := r) (decide_eq_true (by omega)) h)
    have hx : (fldR l k).length = lnN l k := by simp only [fldR, List.length_take, List.length_drop]; omega
    replace ht := fun r h => ht _ (bif_step (r := r) (decide_eq_true (by omega)) h)
    by_cases c5 : es.length = 8
    · rw [decide_eq_true c5, cond_true, cond_true]
      exact RunsG.last (by simp [rdE]) (step (ht _ (bif_step (by rw [cond_false, c5]; rfl) rfl)))
    rw [decide_eq_false c5, cond_false]
    replace ht := fun r h => ht _ (bif_stepF (r := r) (by rw [cond_false, beq_eq_false_iff_ne]; omega) h)
    have hf : frC (fldR l k) = true := by
      simp only [frC, Bool.and_eq_true, decide_eq_true_eq, hx]
      exact ⟨by omega, okB_take (okB_drop ho _) _⟩
    replace ht := fun r h => ht _ (bif_step (r := r) hf h)
    cases c6 : okR (fldR l k)
    · rw [Bool.not_false, cond_true]
      exact RunsG.last (by simp [rdE]) (step (ht _ (bif_step (by rw [c6]; rfl) rfl)))
    rw [Bool.not_true, cond_false]
    replace ht := fun r h => ht _ (bif_stepF (r := r) (by rw [c6]; rfl) h)
    refine RunsG.step (step (ht _ (bif_step (decide_eq_true ?_) ?_))) (it_runs hl ho f (k + lnN l k) (es ++ [(xR (fldR l k)).iv]) (by omega) (by simp; omega) (by simp; omega))
    · simp only [List.length_cons, List.length_nil, roomB_nat, maxLen_val]; omega
    · rw [hx, wadd (by omega)]; rfl
theorem items_one {call : Nat → CallF} {g : FuncId} {q p : Nat} {G : LiveF} (hp : placesB Try.prog g = true) (h : LoopOK Try.prog hint call (fun _ => noIt) (hint.kp g) (itemAt Try.prog g q) (loopF Try.prog hint g p G)) :
    ItemsOK Try.prog hint call (fun _ => noIt) (oneL g q p G) (hint.kp g) 1 (codeOf Try.prog g) := by
  intro x hx F hF
  unfold oneL at hF
  split at hF
  · rename_i hb
    cases hF
    have hq := Nat.eq_of_beq_eq_true hb
    have : itemAt Try.prog g q = x.2 := by
      unfold itemAt
      rw [← hq, lookup_once _ x.1 x.2 hp hx]
      rfl
    rw [← this]
    exact h
  · cases hF
/-- The whole loop's contract, at one packet's bytes. -/
def fsF (p : PK) (l : List IV) (r : Bool × Nat × List IV) : LiveF := match r.1 with
  | true => oneF (rdV l) (rdB p l [] 48 48 0 0) .normal (rdV l) (rdB p l r.2.2 (r.2.1 : Int) (r.2.1 : Int) 0 0)
  | false => oneF (rdV l) (rdB p l [] 48 48 0 0) .ret (rdV l) (rdB p l r.2.2 (r.2.1 : Int) (r.2.1 : Int) (r.2.1 : Int) 101)
theorem fs_ev (p : PK) (l : List IV) : ev hint [] (rdS p l [] 48 48 0 0) (rfOp rdI) = some (.fn 48 [.ptr 6 0, .ptr 7 0]) := by kernel_rfl
theorem fs_ok {p : PK} {l : List IV} (h1 : 48 ≤ l.length) (hl : l.length ≤ 8192) (ho : okB l = true) : LoopOK Try.prog hint (acall Try.prog hint (ovrOf reTab)) (itOf Try.prog hint (acall Try.prog hint (ovrOf reTab))) (hint.kp 36) (itemAt Try.prog 36 8186) (loopF Try.prog hint 36 0 (fsF p l (rdL l 9 48 []))) := by
  refine loopF_at fun vs bx e vs' bx' hm => ?_
  have hr := it_runs (p := p) hl ho 9 48 [] h1 (by simp) (by simp)
  revert hm hr
  generalize rdL l 9 48 [] = r
  obtain ⟨b, k, es⟩ := r
  have go : ∀ {e0 : Ex} {bx0 : List Blk} {e1 : Ex} {s1 : St}, RunsG (rdRun p l) 10 (hint.kp 48) (itS p l [] 48 48 0 0 .ready) e0 (Sx 48 itV bx0) →
      rfLoopK Try.prog hint reTab (fun _ _ => none) (oneL 48 2 10 (oneF itV (itB p l [] 48 48 0 0 .ready) e0 itV bx0)) 30 0 36 8186 (rdS p l [] 48 48 0 0) = some (e1, s1) →
      ∃ m, ∀ j i, m ≤ j → m ≤ i → itemRun Try.prog hint (acall Try.prog hint (ovrOf reTab) j) (itOf Try.prog hint (acall Try.prog hint (ovrOf reTab)) j) (hint.kp 36) 0 j i (itemAt Try.prog 36 8186) (rdS p l [] 48 48 0 0) = some (e1, s1) := by
    intro e0 bx0 e1 s1 h2 h3
    refine rfLoop_run loops_none rdI_eq inner0 inner0 (fs_ev p l) (items_one (by kernel_rfl) (inner_ok (by kernel_rfl) ?_)) h3
    intro vs bx e vs' bx' hm
    obtain ⟨rfl, rfl, rfl, rfl, rfl⟩ := oneF_mem hm
    exact h2
  cases b
  · intro hm hr
    obtain ⟨rfl, rfl, rfl, rfl, rfl⟩ := oneF_mem hm
    exact go hr ((rf_no p l es (k : Int) getFC getFG frC xR okR cloneC).trans (bif_step (@decide_eq_true _ (Classical.propDecidable _) ⟨rfl, rfl⟩) rfl))
  · intro hm hr
    obtain ⟨rfl, rfl, rfl, rfl, rfl⟩ := oneF_mem hm
    exact go hr ((rf_ok p l es (k : Int) getFC getFG frC xR okR cloneC).trans (bif_step (@decide_eq_true _ (Classical.propDecidable _) ⟨rfl, rfl⟩) rfl))
end
end Go.Proofs.Ytgbddcdpbgaojaa
