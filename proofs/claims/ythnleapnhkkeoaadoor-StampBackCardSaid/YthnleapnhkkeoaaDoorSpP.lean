/- The laws on times' texts: what is proved of the given program. It bears no condition. -/
import Derived.Test.YthnleapnhkkeoaaDoorSpO
namespace Go.Proofs.YthnleapnhkkeoaaDoor
open Go Go.Im
set_option linter.unusedVariables false
set_option linter.unusedSimpArgs false
noncomputable section

def inU (x : Int) : Bool := decide (0 ≤ x ∧ x < 18446744073709551616)
def prG (x : Int) : List UInt8 := printL x.toNat
def shS (s : List UInt8) : Bool := decide (s.length ≤ 1000000)
def ptI (s : List UInt8) : Int := oT (psO s)
def peI (s : List UInt8) : Int := oE (psO s)
def rtI (s : List UInt8) : Int := oT (rfO s)
def reI (s : List UInt8) : Int := oE (rfO s)
theorem print_known' : Known Tryd.prog hint 18 (prP inU prG) := by
  refine known_sub print_known fun xs T x h => ?_
  unfold prP at h
  unfold printF
  split at h
  · exact h
  · cases h
theorem rprint_known' : Known Tryd.prog hint 19 (prP inU prG) := by
  refine known_sub rprint_known fun xs T x h => ?_
  unfold prP at h
  unfold printF
  split at h
  · exact h
  · cases h
theorem parse_known' : Known Tryd.prog hint 16 (paP shS ptI peI) := by
  refine known_sub parse_known fun xs T x h => ?_
  unfold paP at h
  unfold parseF
  split at h
  · exact h
  · cases h
theorem rparse_known' : Known Tryd.prog hint 17 (paP shS rtI reI) := by
  refine known_sub rparse_known fun xs T x h => ?_
  unfold paP at h
  unfold parseF
  split at h
  · exact h
  · cases h
abbrev tabX : FuncId → Option SpecF := tabPr inU prG prG shS ptI peI rtI reI
theorem tabX_ok : ∀ f F, tabX f = some F → Known Tryd.prog hint f F := tab_cons alive_known (tab_cons parse_known' (tab_cons rparse_known' (tab_cons print_known' (tab_cons rprint_known' tab_nil))))
theorem prints_true {t : Int} (ht : 0 ≤ t ∧ t < 18446744073709551616) (s : List UInt8) : C tabX 4 [.int .u64 t, .str s] = some (.bool true, []) := by
  refine (prints_tree t s inU prG prG shS ptI peI rtI reI).trans ?_
  by_cases h : (s.length : Int) > 100
  · exact bif_step (decide_eq_true h) rfl
  have hs : shS s = true := decide_eq_true (by omega)
  have hu : inU t = true := decide_eq_true ht
  refine bif_stepF (decide_eq_false h) (bif_step hs (bif_step hs (bif_step hu (bif_step hu ?_))))
  have e : (bif bif bif true then prG t == prG t else false then ptI s == rtI s else false then peI s == reI s else false) = true := by
    unfold ptI rtI peI reI
    rw [ps_rf s]
    simp only [cond_true, beq_self_eq_true]
  exact congrArg (fun b => some (IV.bool b, ([] : List Blk))) e
theorem back_true {a b : Int} (ha : 0 ≤ a ∧ a < 18446744073709551616) (hb : 0 ≤ b ∧ b < 18446744073709551616) : C tabX 5 [.int .u64 a, .int .u64 b] = some (.bool true, []) := by
  refine (back_tree a b inU prG prG shS ptI peI rtI reI).trans ?_
  have ua : inU a = true := decide_eq_true ha
  have ub : inU b = true := decide_eq_true hb
  have hp : psO (prG a) = some a.toNat := ps_complete (by omega)
  have hl : shS (prG a) = true := by
    refine decide_eq_true ?_
    have h1 : (prG a).length = _ := print_len a.toNat
    have h2 := decL_ten (t := a.toNat) (by omega)
    omega
  have e1 : peI (prG a) = 0 := by unfold peI; rw [hp]; rfl
  have e2 : ptI (prG a) = a := by
    unfold ptI
    rw [hp]
    show ((a.toNat : Nat) : Int) = a
    omega
  refine bif_step ua (bif_step hl (bif_step ?_ (bif_step ua (bif_step ub ?_))))
  · rw [e1, e2]; simp
  have e : (bif true then (a == b) == (prG a == prG b) else false) = true := by
    rw [cond_true, beq_iff_eq, Bool.eq_iff_iff, beq_iff_eq, beq_iff_eq]
    constructor
    · rintro rfl; rfl
    · intro h
      have := print_inj (show a.toNat < 18446744073709551616 by omega) (show b.toNat < 18446744073709551616 by omega) h
      omega
  exact congrArg (fun b => some (IV.bool b, ([] : List Blk))) e
theorem args2 {P : Program} {ps : Array TypeId} {t0 t1 : TypeId} (hp : ps = #[t0, t1]) {xs : List IV} (hl : xs.length = ps.size) (h : ∀ (i : Nat) t, ps[i]? = some t → ∃ x, xs[i]? = some x ∧ ArgT P t x) :
    ∃ x0 x1, xs = [x0, x1] ∧ ArgT P t0 x0 ∧ ArgT P t1 x1 := by
  subst hp
  obtain ⟨x0, g0, a0⟩ := h 0 t0 rfl
  obtain ⟨x1, g1, a1⟩ := h 1 t1 rfl
  match xs, hl with
  | [y0, y1], _ =>
    simp only [List.getElem?_cons_zero, List.getElem?_cons_succ, Option.some.injEq] at g0 g1
    subst g0 g1
    exact ⟨_, _, rfl, a0, a1⟩
theorem stampPrints_run (xs : List IV) (hl : xs.length = Tryd.f4.params.size) (h : ∀ (i : Nat) t, Tryd.f4.params[i]? = some t → ∃ x, xs[i]? = some x ∧ ArgT Tryd.prog t x) :
    ∃ k, acall Tryd.prog hint (ovrOf tabX) k 4 xs [] = some (.bool true, []) := by
  obtain ⟨x0, x1, rfl, h0, h1⟩ := args2 Tryd.params4 hl h
  obtain ⟨t, rfl, a1, a2⟩ := arg_int Tryd.underlying22 h0
  obtain ⟨s, rfl, _⟩ := arg_str Tryd.underlying9 h1
  obtain ⟨ra, rb⟩ := Go.Im.range_u64
  exact law_run loops_none (prints_true ⟨by omega, by omega⟩ s)
theorem stampBack_run (xs : List IV) (hl : xs.length = Tryd.f5.params.size) (h : ∀ (i : Nat) t, Tryd.f5.params[i]? = some t → ∃ x, xs[i]? = some x ∧ ArgT Tryd.prog t x) :
    ∃ k, acall Tryd.prog hint (ovrOf tabX) k 5 xs [] = some (.bool true, []) := by
  obtain ⟨x0, x1, rfl, h0, h1⟩ := args2 Tryd.params5 hl h
  obtain ⟨a, rfl, a1, a2⟩ := arg_int Tryd.underlying22 h0
  obtain ⟨b, rfl, b1, b2⟩ := arg_int Tryd.underlying22 h1
  obtain ⟨ra, rb⟩ := Go.Im.range_u64
  exact law_run loops_none (back_true ⟨by omega, by omega⟩ ⟨by omega, by omega⟩)
theorem wants_none {P : Program} {ps : Array TypeId} (h : (ps.toList.all fun t => !P.wantsStandIn t) = true) : ∀ (j : Nat) (t : TypeId), ps[j]? = some t → P.wantsStandIn t = false := by
  intro j t ht
  have := List.all_eq_true.1 h t (by rw [Array.mem_toList_iff]; exact Array.mem_of_getElem? ht)
  simpa using this
end
end Go.Proofs.YthnleapnhkkeoaaDoor
