/- A packet is read: what is proved of the given program. It bears no condition. -/
import Derived.Test.YtgbddcdpbgaojaaAwX
namespace Go.Proofs.Ytgbddcdpbgaojaa
open Go Go.Im
set_option linter.unusedVariables false
set_option linter.unusedSimpArgs false
set_option maxRecDepth 20000
noncomputable section

/-! ### What reading comes to -/
def rdR (l : List IV) : Bool × Nat × List IV := rdL l 9 48 []
def rdN (l : List IV) : Nat := (rdR l).2.1
def headBad (l : List IV) : Bool := bif bif (hdP getFG l).ve != 4 then true else decide ((hdP getFG l).mo < 1) then true else decide ((hdP getFG l).mo > 5)
def restBad (l : List IV) : Bool := decide (l.length - rdN l ≠ 0 ∧ l.length - rdN l ≠ 4 ∧ l.length - rdN l ≠ 20)
/-- The fault of bytes that are no packet. -/
def rdA (l : List IV) : Option (Int × Int) := bif decide (8192 < l.length) then some (0, 2) else bif decide (l.length < 48) then some ((l.length : Int), 72) else
  bif headBad l then some (0, 100) else bif decide ((hdP getFG l).st > 16) then some (1, 100) else bif decide ((hdP getFG l).po > 17) then some (2, 100) else
  bif !(rdR l).1 then some ((rdN l : Int), 101) else bif restBad l then some ((rdN l : Int), 102) else none
def okPk (l : List IV) : PK :=
  { hdP getFG l with
    es := (rdR l).2.2
    ha := decide (l.length - rdN l ≠ 0)
    ky := (bif decide (l.length - rdN l ≠ 0) then IntKind.u32.wrap (getFG ((l.drop (rdN l)).take 4)) else 0)
    n2 := none
    c2 := false
    z2 := 1
    su := (bif decide (l.length - rdN l ≠ 0) then l.drop (rdN l + 4) else []) }
def noPk : PK := { zPK with n1 := none, c1 := false, z1 := 8, n2 := none, c2 := false, z2 := 1 }
def rdPk (l : List IV) : PK := match rdA l with | none => okPk l | some _ => noPk
def rdK (l : List IV) : Int := match rdA l with | none => (rdN l : Int) | some _ => 0
def rdFa (l : List IV) : Int := match rdA l with | none => 0 | some x => x.1
def rdFc (l : List IV) : Int := match rdA l with | none => 0 | some x => x.2
def rdP (c : Nat → List IV → Bool) (p : List IV → PK) (k fa fc : List IV → Int) : SpecF := fun xs T => match xs, T with
  | [.fsl nl cl z l], [] => [(c z l, .tup [(p l).iv, .int .i64 (k l), .agg [.int .i64 (fa l), .int .i64 (fc l)]], [])]
  | _, _ => []
def rdV1 (l : List IV) : IV := .tup [(rdPk l).iv, .int .i64 (rdK l), .agg [.int .i64 (rdFa l), .int .i64 (rdFc l)]]
def failV (a b : Int) : IV := .tup [.agg zPK.cells, .int .i64 0, .agg [.int .i64 a, .int .i64 b]]
theorem wkPk {a b c d e f g h i j k m n : Int} {n1 n2 : Option Bool} {c1 c2 : Bool} {z1 z2 : Nat} {es su : List IV} {ha : Bool} {ky : Int} {x y : IV} (h1 : z1 = 8 ∨ es = []) (h2 : z2 = 1 ∨ su = []) :
    Wk (.tup [.agg [.int .i64 a, .int .i64 b, .int .i64 c, .int .i64 d, .int .i64 e, .int .i64 f, .int .u32 g, .int .u32 h, .int .u32 i, .int .u64 j, .int .u64 k, .int .u64 m, .int .u64 n, .fsl n1 c1 z1 es, .bool ha, .int .u32 ky, .fsl n2 c2 z2 su], x, y])
      (.tup [.agg [.int .i64 a, .int .i64 b, .int .i64 c, .int .i64 d, .int .i64 e, .int .i64 f, .int .u32 g, .int .u32 h, .int .u32 i, .int .u64 j, .int .u64 k, .int .u64 m, .int .u64 n, .fsl none false 8 es, .bool ha, .int .u32 ky, .fsl none false 1 su], x, y]) := by
  refine Wk.tup (WkL.cons (Wk.agg ?_) (WkL.cons (Wk.refl _) (WkL.cons (Wk.refl _) WkL.nil)))
  iterate 13 refine WkL.cons (Wk.refl _) ?_
  refine WkL.cons (Wk.fsl rfl (.inl rfl) (by simp) ?_) (WkL.cons (Wk.refl _) (WkL.cons (Wk.refl _) (WkL.cons (Wk.fsl rfl (.inl rfl) (by simp) ?_) WkL.nil)))
  · rcases h1 with h | h
    · exact .inl h.symm
    · exact .inr h
  · rcases h2 with h | h
    · exact .inl h.symm
    · exact .inr h
theorem wkFail {l : List IV} {a b : Int} (h : rdA l = some (a, b)) : Wk (failV a b) (rdV1 l) := by
  unfold rdV1 rdPk rdK rdFa rdFc
  rw [h]
  exact wkPk (.inr rfl) (.inr rfl)
theorem rdL_le {l : List IV} : ∀ (f k : Nat) (es : List IV), k ≤ l.length → (rdL l f k es).2.1 ≤ l.length
  | 0, k, es, h => h
  | f + 1, k, es, h => by
    unfold rdL
    by_cases c1 : l.length ≤ k + 20
    · rw [decide_eq_true c1]; exact h
    rw [decide_eq_false c1, cond_false]
    cases c2 : badK l k es
    · refine rdL_le f _ _ ?_
      have h2 : lenBad l k = false := by
        cases h3 : lenBad l k
        · rfl
        · simp [badK, h3] at c2
      simp only [lenBad, decide_eq_false_iff_not] at h2
      omega
    · exact h
theorem reTab_ok' : ∀ f F, reT getFC getFG frC xR okR cloneC f = some F → Known Try.prog hint f F := reTab_ok
theorem rd_each {l : List IV} (hl : l.length ≤ 100000) (ho : okB l = true) : ∃ (spec : FuncId → Option SpecF) (ls : FuncId → Nat → Option LoopF), (∀ f F, spec f = some F → Known Try.prog hint f F) ∧ LoopsOK Try.prog hint (acall Try.prog hint (ovrOf spec)) ls ∧
    ∃ n v0 T2 v1 fr, callK Try.prog hint spec ls n 36 [.fsl none false 1 l] [] (fun v T => some (v, T)) = some (v0, T2) ∧ frz T2 v0 = some (v1, fr) ∧ Wk v1 (rdV1 l) := by
  have early : ∀ a b, rdA l = some (a, b) → C (reT getFC getFG frC xR okR cloneC) 36 [.fsl none false 1 l] = some (failV a b, []) → ∃ (spec : FuncId → Option SpecF) (ls : FuncId → Nat → Option LoopF), (∀ f F, spec f = some F → Known Try.prog hint f F) ∧ LoopsOK Try.prog hint (acall Try.prog hint (ovrOf spec)) ls ∧
      ∃ n v0 T2 v1 fr, callK Try.prog hint spec ls n 36 [.fsl none false 1 l] [] (fun v T => some (v, T)) = some (v0, T2) ∧ frz T2 v0 = some (v1, fr) ∧ Wk v1 (rdV1 l) :=
    fun a b hA hC => ⟨_, _, reTab_ok', loops_none, 30, _, _, failV a b, [], hC, rfl, wkFail hA⟩
  have hx := rd_x l getFC getFG frC xR okR cloneC
  by_cases c1 : 8192 < l.length
  · exact early 0 2 (by rw [rdA, decide_eq_true c1]; rfl) (hx.trans (bif_step (decide_eq_true (by omega)) rfl))
  replace hx := fun r h => hx.trans (bif_stepF (r := r) (decide_eq_false (by omega)) h)
  by_cases c2 : l.length < 48
  · exact early (l.length : Int) 72 (by rw [rdA, decide_eq_false c1, decide_eq_true c2]; rfl) (hx _ (bif_step (decide_eq_true (by omega)) rfl))
  replace hx := fun r h => hx _ (bif_stepF (r := r) (decide_eq_false (by omega)) h)
  have i0 := isOf_nth ho (i := 0) (by omega)
  have i1 := isOf_nth ho (i := 1) (by omega)
  have i2 := isOf_nth ho (i := 2) (by omega)
  have i3 := isOf_nth ho (i := 3) (by omega)
  have gc : ∀ a b, a ≤ 8 → getFC (List.take a (List.drop b l)) = true := by
    intro a b ha
    simp only [getFC, okB_take (okB_drop ho b), Bool.and_true, decide_eq_true_eq, List.length_take]; omega
  replace hx := fun r h => hx _ (bif_step (r := r) (decide_eq_true (by omega)) (bif_step i0 (bif_step (decide_eq_true (by omega)) (bif_step i0 (bif_step (decide_eq_true (by omega)) (bif_step i0 h))))))
  replace hx := fun r h => hx _ (bif_step (r := r) (decide_eq_true (by omega)) (bif_step i1 (bif_step (decide_eq_true (by omega)) (bif_step i2 (bif_step (decide_eq_true (by omega)) (bif_step i3 h))))))
  cases c3 : headBad l
  case true => exact early 0 100 (by rw [rdA, decide_eq_false c1, decide_eq_false c2, c3]; rfl) (hx _ (bif_step c3 rfl))
  replace hx := fun r h => hx _ (bif_stepF (r := r) c3 h)
  by_cases c4 : (hdP getFG l).st > 16
  · exact early 1 100 (by rw [rdA, decide_eq_false c1, decide_eq_false c2, c3, decide_eq_true c4]; rfl) (hx _ (bif_step (decide_eq_true c4) rfl))
  replace hx := fun r h => hx _ (bif_stepF (r := r) (decide_eq_false c4) h)
  by_cases c5 : (hdP getFG l).po > 17
  · exact early 2 100 (by rw [rdA, decide_eq_false c1, decide_eq_false c2, c3, decide_eq_false c4, decide_eq_true c5]; rfl) (hx _ (bif_step (decide_eq_true c5) rfl))
  clear hx
  have hN : rdN l ≤ l.length := rdL_le 9 48 [] (by omega)
  have hfs := fs_ok (p := hdP getFG l) (l := l) (by omega) (by omega) ho
  have hr : rdL l 9 48 [] = ((rdR l).1, rdN l, (rdR l).2.2) := rfl
  rw [hr] at hfs
  cases c6 : (rdR l).1
  · rw [c6] at hfs
    have hx := rd_no l (rdR l).2.2 (rdN l : Int) getFC getFG frC xR okR cloneC
    refine ⟨_, _, reTab_ok', ltab_cons (by kernel_rfl) hfs ltab_nil, 30, failV (rdN l : Int) 101, [], failV (rdN l : Int) 101, [], hx.trans ?_, rfl, wkFail (by rw [rdA, decide_eq_false c1, decide_eq_false c2, c3, decide_eq_false c4, decide_eq_false c5, c6]; rfl)⟩
    refine bif_stepF (decide_eq_false (by omega)) (bif_stepF (decide_eq_false (by omega)) ?_)
    refine bif_step (decide_eq_true (by omega)) (bif_step i0 (bif_step (decide_eq_true (by omega)) (bif_step i0 (bif_step (decide_eq_true (by omega)) (bif_step i0 ?_)))))
    refine bif_step (decide_eq_true (by omega)) (bif_step i1 (bif_step (decide_eq_true (by omega)) (bif_step i2 (bif_step (decide_eq_true (by omega)) (bif_step i3 ?_)))))
    refine bif_stepF c3 (bif_stepF (decide_eq_false c4) (bif_stepF (decide_eq_false c5) ?_))
    refine bif_step (decide_eq_true (by omega)) (bif_step (gc 4 4 (by omega)) (bif_step (decide_eq_true (by omega)) (bif_step (gc 4 8 (by omega)) (bif_step (decide_eq_true (by omega)) (bif_step (gc 4 12 (by omega)) ?_)))))
    refine bif_step (decide_eq_true (by omega)) (bif_step (gc 8 16 (by omega)) (bif_step (decide_eq_true (by omega)) (bif_step (gc 8 24 (by omega)) (bif_step (decide_eq_true (by omega)) (bif_step (gc 8 32 (by omega)) (bif_step (decide_eq_true (by omega)) (bif_step (gc 8 40 (by omega)) ?_)))))))
    exact bif_step sameS_t rfl
  rw [c6] at hfs
  have hx := rd_ok l (rdR l).2.2 (rdN l : Int) getFC getFG frC xR okR cloneC
  rw [wsub' hN (by omega), wadd4 (by omega)] at hx
  replace hx := fun r h => hx.trans (bif_stepF (r := r) (decide_eq_false (by omega)) (bif_stepF (decide_eq_false (by omega)) h))
  replace hx := fun r h => hx _ (bif_step (r := r) (decide_eq_true (by omega)) (bif_step i0 (bif_step (decide_eq_true (by omega)) (bif_step i0 (bif_step (decide_eq_true (by omega)) (bif_step i0 h))))))
  replace hx := fun r h => hx _ (bif_step (r := r) (decide_eq_true (by omega)) (bif_step i1 (bif_step (decide_eq_true (by omega)) (bif_step i2 (bif_step (decide_eq_true (by omega)) (bif_step i3 h))))))
  replace hx := fun r h => hx _ (bif_stepF (r := r) c3 (bif_stepF (decide_eq_false c4) (bif_stepF (decide_eq_false c5) h)))
  replace hx := fun r h => hx _ (bif_step (r := r) (decide_eq_true (by omega)) (bif_step (gc 4 4 (by omega)) (bif_step (decide_eq_true (by omega)) (bif_step (gc 4 8 (by omega)) (bif_step (decide_eq_true (by omega)) (bif_step (gc 4 12 (by omega)) h))))))
  replace hx := fun r h => hx _ (bif_step (r := r) (decide_eq_true (by omega)) (bif_step (gc 8 16 (by omega)) (bif_step (decide_eq_true (by omega)) (bif_step (gc 8 24 (by omega)) (bif_step (decide_eq_true (by omega)) (bif_step (gc 8 32 (by omega)) (bif_step (decide_eq_true (by omega)) (bif_step (gc 8 40 (by omega)) h))))))))
  replace hx := fun r h => hx _ (bif_step (r := r) sameS_t h)
  have hA : restBad l = false → rdA l = none := fun h => by rw [rdA, decide_eq_false c1, decide_eq_false c2, c3, decide_eq_false c4, decide_eq_false c5, c6, h]; rfl
  by_cases d0 : l.length - rdN l = 0
  · refine ⟨_, _, reTab_ok', ltab_cons (by kernel_rfl) hfs ltab_nil, 30, _, _, _, [0], hx _ (bif_step (by rw [d0]; rfl) rfl), rfl, ?_⟩
    have hA := hA (by simp [restBad, d0])
    unfold rdV1 rdPk rdK rdFa rdFc
    rw [hA]
    unfold okPk
    rw [decide_eq_false (show ¬ (l.length - rdN l ≠ 0) by omega)]
    exact wkPk (.inl rfl) (.inr rfl)
  replace hx := fun r h => hx _ (bif_stepF (r := r) (by rw [beq_eq_false_iff_ne]; omega) h)
  have hcl : cloneC 1 (List.take (((l.length : Int)).toNat - (((rdN l + 4 : Nat) : Int)).toNat) (List.drop (((rdN l + 4 : Nat) : Int)).toNat l)) = true := by
    simp only [cloneC, decide_eq_true_eq, true_or, true_and, List.length_take]; omega
  have hgt : getFC (List.take ((((rdN l + 4 : Nat) : Int)).toNat - ((rdN l : Int)).toNat) (List.drop ((rdN l : Int)).toNat l)) = true := by
    rw [Int.toNat_natCast, Int.toNat_natCast]; exact gc _ _ (by omega)
  have fin : l.length - rdN l = 4 ∨ l.length - rdN l = 20 → Wk (.tup [.agg [.int .i64 (hdP getFG l).le, .int .i64 (hdP getFG l).ve, .int .i64 (hdP getFG l).mo, .int .i64 (hdP getFG l).st, .int .i64 (hdP getFG l).po, .int .i64 (hdP getFG l).pr, .int .u32 (hdP getFG l).de, .int .u32 (hdP getFG l).di, .int .u32 (hdP getFG l).ri, .int .u64 (hdP getFG l).rf, .int .u64 (hdP getFG l).og, .int .u64 (hdP getFG l).rc, .int .u64 (hdP getFG l).xm,
      .fsl none false 8 (rdR l).2.2, .bool true, .int .u32 (IntKind.u32.wrap (getFG (List.take ((((rdN l + 4 : Nat) : Int)).toNat - ((rdN l : Int)).toNat) (List.drop ((rdN l : Int)).toNat l)))), .fsl none false 1 (List.take (((l.length : Int)).toNat - (((rdN l + 4 : Nat) : Int)).toNat) (List.drop (((rdN l + 4 : Nat) : Int)).toNat l))], .int .i64 (rdN l : Int), .agg [.int .i64 0, .int .i64 0]]) (rdV1 l) := by
    intro hd
    have hA := hA (by simp only [restBad, decide_eq_false_iff_not]; omega)
    unfold rdV1 rdPk rdK rdFa rdFc
    rw [hA]
    unfold okPk
    rw [decide_eq_true d0]
    simp only [Int.toNat_natCast, Nat.add_sub_cancel_left]
    rw [List.take_of_length_le (l := List.drop (rdN l + 4) l) (by simp)]
    exact wkPk (.inl rfl) (.inl rfl)
  by_cases d4 : l.length - rdN l = 4
  · refine ⟨_, _, reTab_ok', ltab_cons (by kernel_rfl) hfs ltab_nil, 30, _, _, _, [0], hx _ (bif_step (by rw [d4]; rfl) (bif_step (decide_eq_true (by omega)) (bif_step hgt (bif_step (decide_eq_true (by omega)) (bif_step hcl rfl))))), rfl, fin (.inl d4)⟩
  replace hx := fun r h => hx _ (bif_stepF (r := r) (by rw [beq_eq_false_iff_ne]; omega) h)
  by_cases d20 : l.length - rdN l = 20
  · refine ⟨_, _, reTab_ok', ltab_cons (by kernel_rfl) hfs ltab_nil, 30, _, _, _, [0], hx _ (bif_step (by rw [d20]; rfl) (bif_step (decide_eq_true (by omega)) (bif_step hgt (bif_step (decide_eq_true (by omega)) (bif_step hcl rfl))))), rfl, fin (.inr d20)⟩
  · refine ⟨_, _, reTab_ok', ltab_cons (by kernel_rfl) hfs ltab_nil, 30, failV (rdN l : Int) 102, [], failV (rdN l : Int) 102, [], hx _ (bif_stepF (by rw [beq_eq_false_iff_ne]; omega) rfl), rfl, wkFail ?_⟩
    rw [rdA, decide_eq_false c1, decide_eq_false c2, c3, decide_eq_false c4, decide_eq_false c5, c6, show restBad l = true from decide_eq_true ⟨d0, d4, d20⟩]; rfl
theorem Splits.wk {xs ys : List IV} (h : WkL xs ys) : Splits xs [ys] := fun Γ w vs hr => ⟨ys, List.mem_singleton.2 rfl, h Γ w vs hr⟩
theorem rd_known : Known Try.prog hint 36 (rdP rowB rdPk rdK rdFa rdFc) := by
  refine known_frz fits ?_
  intro xs T v T1 h
  unfold rdP at h
  split at h
  case h_2 => cases h
  rename_i nl cl z l
  simp only [List.mem_cons, List.not_mem_nil, or_false, Prod.mk.injEq, Bool.true_eq, rowB, Bool.and_eq_true, decide_eq_true_eq] at h
  obtain ⟨⟨⟨rfl, hl⟩, ho⟩, rfl, rfl⟩ := h
  refine ⟨rfl, rfl, [[.fsl none false 1 l]], by simp, Splits.wk (WkL.cons (Wk.fsl rfl (.inl rfl) (by simp) (.inl rfl)) WkL.nil), fun ys hy => ?_⟩
  rw [List.mem_singleton] at hy
  subst hy
  exact ⟨noGd_of rfl, rd_each hl ho⟩
end
end Go.Proofs.Ytgbddcdpbgaojaa
